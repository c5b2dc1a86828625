/- Merged by program: T115, T116, T117, T118, T119, T120, T121, T122, T123, T124, T125, T126, T127, T128, T129, T130, T131, T133, T134, T135, T136, T137, T138, T139, T140, L1, L2, L3, L4, L5, L6, L7, L8, L9. -/
import Derived.Test.YtpangdaijhiohaaM4
import Derived.Test.YtpangdaijhiohaaChecked
/- Least and greatest; sums over places; truths. -/
set_option linter.unusedSimpArgs false
set_option linter.unusedVariables false
set_option linter.unnecessarySimpa false
namespace Go.Proofs.Ytpangdaijhiohaa.Do
open Go Go.V

/-- A sum over the first n numbers. -/
def sumN (f : Nat → Int) : Nat → Int
  | 0 => 0
  | n + 1 => sumN f n + f n

theorem sumN_congr {f g : Nat → Int} : ∀ n, (∀ i, i < n → f i = g i) → sumN f n = sumN g n
  | 0, _ => rfl
  | n + 1, h => by simp only [sumN]; rw [sumN_congr n fun i hi => h i (by omega), h n (by omega)]

theorem sumN_le {f g : Nat → Int} : ∀ n, (∀ i, i < n → f i ≤ g i) → sumN f n ≤ sumN g n
  | 0, _ => Int.le_refl _
  | n + 1, h => by
    have h1 := sumN_le n fun i hi => h i (by omega)
    have h2 := h n (by omega)
    simp only [sumN]; omega

theorem sumN_add {f g : Nat → Int} : ∀ n, sumN (fun i => f i + g i) n = sumN f n + sumN g n
  | 0 => rfl
  | n + 1 => by simp only [sumN]; rw [sumN_add n]; omega

theorem sumN_sub {f g : Nat → Int} : ∀ n, sumN (fun i => f i - g i) n = sumN f n - sumN g n
  | 0 => rfl
  | n + 1 => by simp only [sumN]; rw [sumN_sub n]; omega

theorem sumN_zero {f : Nat → Int} : ∀ n, (∀ i, i < n → f i = 0) → sumN f n = 0
  | 0, _ => rfl
  | n + 1, h => by simp only [sumN]; rw [sumN_zero n fun i hi => h i (by omega), h n (by omega)]; rfl

theorem sumN_one {f : Nat → Int} {k : Nat} : ∀ n, k < n → (∀ i, i < n → i ≠ k → f i = 0) → sumN f n = f k
  | n + 1, hk, h => by
    simp only [sumN]
    by_cases e : k = n
    · subst e
      rw [sumN_zero k fun i hi => h i (by omega) (by omega)]; omega
    · rw [sumN_one n (by omega) fun i hi => h i (by omega), h n (by omega) (fun x => e x.symm)]; omega

theorem sumN_bd {f : Nat → Int} {lo hi : Int} : ∀ n, (∀ i, i < n → lo ≤ f i ∧ f i ≤ hi) → lo * n ≤ sumN f n ∧ sumN f n ≤ hi * n
  | 0, _ => by simp [sumN]
  | n + 1, h => by
    have h1 := sumN_bd n fun i hi => h i (by omega)
    have h2 := h n (by omega)
    have e1 : lo * ((n + 1 : Nat) : Int) = lo * n + lo := by rw [Int.natCast_add, Int.mul_add]; simp
    have e2 : hi * ((n + 1 : Nat) : Int) = hi * n + hi := by rw [Int.natCast_add, Int.mul_add]; simp
    rw [e1, e2]
    simp only [sumN]; omega

/-- The least, and the greatest, of the first k of a list (and of its first one). -/
def mnK (f : List Int → Int) (l : List (List Int)) : Nat → Int
  | 0 => f (l[0]?.getD default)
  | k + 1 => min (mnK f l k) (f (l[k]?.getD default))

def mxK (f : List Int → Int) (l : List (List Int)) : Nat → Int
  | 0 => f (l[0]?.getD default)
  | k + 1 => max (mxK f l k) (f (l[k]?.getD default))

def mn (f : List Int → Int) (l : List (List Int)) : Int := mnK f l l.length

def mx (f : List Int → Int) (l : List (List Int)) : Int := mxK f l l.length

theorem mxK_ge (f : List Int → Int) (l : List (List Int)) : ∀ k j, j < k → f (l[j]?.getD default) ≤ mxK f l k
  | k + 1, j, h => by
    simp only [mxK]
    by_cases e : j = k
    · subst e; omega
    · have := mxK_ge f l k j (by omega); omega

theorem mxK_at (f : List Int → Int) (l : List (List Int)) (h0 : 0 < l.length) : ∀ k, k ≤ l.length → ∃ j, j < l.length ∧ mxK f l k = f (l[j]?.getD default)
  | 0, _ => ⟨0, h0, rfl⟩
  | k + 1, h => by
    simp only [mxK]
    by_cases e : f (l[k]?.getD default) ≤ mxK f l k
    · obtain ⟨j, h1, h2⟩ := mxK_at f l h0 k (by omega)
      exact ⟨j, h1, by rw [← h2]; omega⟩
    · exact ⟨k, by omega, by omega⟩

theorem getD_mem {l : List (List Int)} {j : Nat} (h : j < l.length) : l[j]?.getD default ∈ l := by
  rw [List.getElem?_eq_getElem h]; exact List.getElem_mem h

theorem mx_ge {f : List Int → Int} {l : List (List Int)} {x : List Int} (hx : x ∈ l) : f x ≤ mx f l := by
  obtain ⟨j, hj, rfl⟩ := List.getElem_of_mem hx
  have := mxK_ge f l l.length j hj
  rwa [List.getElem?_eq_getElem hj] at this

theorem mx_mem {f : List Int → Int} {l : List (List Int)} (h : 0 < l.length) : ∃ x ∈ l, mx f l = f x := by
  obtain ⟨j, h1, h2⟩ := mxK_at f l h l.length (Nat.le_refl _)
  exact ⟨_, getD_mem h1, h2⟩

/-- A depth that can be at a place. -/
def okD (b : Bk) (p : Nat) (k : Int) : Prop := 1 ≤ k ∧ k ≤ b.depth ∧ (b.found[p]?.getD default = 0 ∨ b.found[p]?.getD default = k)

theorem mem_chs {b : Bk} {p : Nat} {x : List Int} : ∀ {n : Nat}, x ∈ chs b p n ↔ ∃ k : Nat, 1 ≤ k ∧ k ≤ n ∧ (b.found[p]?.getD default = 0 ∨ b.found[p]?.getD default = (k : Int)) ∧ x = chL b p (k : Int)
  | 0 => by
    simp only [chs, List.not_mem_nil, false_iff]
    rintro ⟨k, h1, h2, _⟩
    omega
  | n + 1 => by
    have ih := mem_chs (b := b) (p := p) (x := x) (n := n)
    simp only [chs]
    split
    · rename_i ha
      rw [mem_ddF, ih]
      constructor
      · rintro (⟨k, h1, h2, h3, h4⟩ | e)
        · exact ⟨k, h1, by omega, h3, h4⟩
        · exact ⟨n + 1, by omega, by omega, ha, e⟩
      · rintro ⟨k, h1, h2, h3, h4⟩
        by_cases e : k = n + 1
        · subst e; exact .inr h4
        · exact .inl ⟨k, h1, by omega, h3, h4⟩
    · rename_i ha
      rw [ih]
      constructor
      · rintro ⟨k, h1, h2, h3, h4⟩
        exact ⟨k, h1, by omega, h3, h4⟩
      · rintro ⟨k, h1, h2, h3, h4⟩
        by_cases e : k = n + 1
        · subst e; exact absurd h3 ha
        · exact ⟨k, h1, by omega, h3, h4⟩

/-- All choices at a place. -/
def chA (b : Bk) (p : Nat) : List (List Int) := chs b p b.depth.toNat

theorem mem_chA {b : Bk} {p : Nat} {x : List Int} : x ∈ chA b p ↔ ∃ k : Int, okD b p k ∧ x = chL b p k := by
  unfold chA
  rw [mem_chs]
  constructor
  · rintro ⟨k, h1, h2, h3, h4⟩
    exact ⟨k, ⟨by omega, by omega, h3⟩, h4⟩
  · rintro ⟨k, ⟨h1, h2, h3⟩, h4⟩
    obtain ⟨n, rfl⟩ : ∃ n : Nat, k = n := ⟨k.toNat, by omega⟩
    exact ⟨n, by omega, by omega, h3, h4⟩

theorem okD_ex {b : Bk} (hv : BV b) {p : Nat} (hp : p < b.found.length) : ∃ k, okD b p k := by
  have h1 := hv.dp
  have h2 := hv.fo p hp
  by_cases e : b.found[p]?.getD default = 0
  · exact ⟨1, by omega, by omega, .inl e⟩
  · exact ⟨b.found[p]?.getD default, by omega, by omega, .inr rfl⟩

theorem chA_pos {b : Bk} (hv : BV b) {p : Nat} (hp : p < b.found.length) : 0 < (chA b p).length := by
  obtain ⟨k, hk⟩ := okD_ex hv hp
  exact List.length_pos_of_mem (mem_chA.2 ⟨k, hk, rfl⟩)

theorem chA_len {b : Bk} (hv : BV b) (p : Nat) : (chA b p).length ≤ 12 := by
  have := chs_len b p b.depth.toNat
  have := hv.dp
  unfold chA
  omega

/-- A truth. -/
structure IsT (b : Bk) (t : List Int) : Prop where
  len : t.length = b.found.length
  ok : ∀ p, p < b.found.length → okD b p (t[p]?.getD default)

theorem chL_at (b : Bk) (p : Nat) (k : Int) {d : Nat} (hd : d < 4) : (chL b p k)[d]?.getD default = chS b p k (d : Nat) b.say.length := chK_at b p k b.say.length d hd

theorem sco_places {b : Bk} (hv : BV b) {t : List Int} (ht : t.length = b.found.length) (h0 : ∀ p, p < b.found.length → t[p]?.getD default ≠ 0) (d : Int) : ∀ k, k ≤ b.say.length → scoK b d t k = sumN (fun p => chS b p (t[p]?.getD default) d k) b.found.length
  | 0, _ => (sumN_zero _ fun i _ => rfl).symm
  | k + 1, hk => by
    have ih := sco_places hv ht h0 d k (by omega)
    simp only [scoK, chS]
    rw [sumN_add, ← ih]
    congr 1
    obtain ⟨_, hp, _⟩ := hv.sy k (by omega)
    obtain ⟨q, hq⟩ : ∃ q : Nat, (syt b k).p = q := ⟨(syt b k).p.toNat, by omega⟩
    have hql : q < b.found.length := by omega
    rw [sumN_one (k := q) _ hql (fun i _ hi => if_neg (fun e => hi (by omega)))]
    have e1 : ptsOf b (syt b k) t = ptsI b (syt b k) (t[q]?.getD default) := by
      have := pts_dug b (syt b k) t (by rw [hq]; exact h0 q hql)
      rw [hq] at this
      exact this.symm
    by_cases e : (syt b k).d = d
    · rw [if_pos e, if_pos ⟨hq, e⟩, e1]
    · rw [if_neg e, if_neg (fun x => e x.2)]

theorem sco_sum {b : Bk} (hv : BV b) {t : List Int} (ht : IsT b t) {d : Nat} (hd : d < 4) : sco b (d : Nat) t = sumN (fun p => (chL b p (t[p]?.getD default))[d]?.getD default) b.found.length := by
  unfold sco
  rw [sco_places hv ht.len (fun p hp => by have := (ht.ok p hp).1; omega) _ _ (Nat.le_refl _)]
  exact sumN_congr _ fun p hp => (chL_at b p _ hd).symm

/-- A truth out of a choice at each place. -/
theorem truth_of {b : Bk} (v : Nat → List Int) (hv : ∀ p, p < b.found.length → v p ∈ chA b p) : ∃ t, IsT b t ∧ ∀ p, p < b.found.length → chL b p (t[p]?.getD default) = v p := by
  have key : ∀ n, n ≤ b.found.length → ∃ t : List Int, t.length = n ∧ ∀ p, p < n → okD b p (t[p]?.getD default) ∧ chL b p (t[p]?.getD default) = v p := by
    intro n
    induction n with
    | zero => exact fun _ => ⟨[], rfl, fun p hp => by omega⟩
    | succ n ih =>
      intro hn
      obtain ⟨t, h1, h2⟩ := ih (by omega)
      obtain ⟨k, h3, h4⟩ := mem_chA.1 (hv n (by omega))
      refine ⟨t ++ [k], by simp [h1], fun p hp => ?_⟩
      by_cases e : p = n
      · subst e
        rw [← h1]
        simp only [List.getElem?_concat_length, Option.getD_some]
        rw [h1]
        exact ⟨h3, h4.symm⟩
      · rw [List.getElem?_append_left (by omega)]
        exact h2 p (by omega)
  obtain ⟨t, h1, h2⟩ := key _ (Nat.le_refl _)
  exact ⟨t, ⟨h1, fun p hp => (h2 p hp).1⟩, fun p hp => (h2 p hp).2⟩

theorem truth_ch {b : Bk} {t : List Int} (ht : IsT b t) {p : Nat} (hp : p < b.found.length) : chL b p (t[p]?.getD default) ∈ chA b p := mem_chA.2 ⟨_, ht.ok p hp, rfl⟩

/-- Between. -/
def lowB (b : Bk) (d : Nat) : Int := sumN (fun p => mn (fun x => x[d]?.getD default) (chA b p)) b.found.length

def higB (b : Bk) (d : Nat) : Int := sumN (fun p => mx (fun x => x[d]?.getD default) (chA b p)) b.found.length

theorem pick_of {b : Bk} {Q : Nat → List Int → Prop} (h : ∀ p, p < b.found.length → ∃ x ∈ chA b p, Q p x) : ∃ v : Nat → List Int, ∀ p, p < b.found.length → v p ∈ chA b p ∧ Q p (v p) := by
  refine ⟨fun p => if hp : p < b.found.length then (h p hp).choose else [], fun p hp => ?_⟩
  simp only [hp, dif_pos]
  exact (h p hp).choose_spec

/-- By how much one is ahead of another one. -/
def dif (o one : Nat) (x : List Int) : Int := x[o]?.getD default - x[one]?.getD default

/-- The most by which another one can be ahead. -/
def worst (b : Bk) (one o : Nat) : Int := sumN (fun p => mx (dif o one) (chA b p)) b.found.length

def surelyB (b : Bk) (one : Nat) : Bool := (List.range b.dow.toNat).all fun o => decide (worst b one o ≤ 0)

/-- One leads in a truth. -/
def LeadT (b : Bk) (one : Nat) (t : List Int) : Prop := ∀ o : Nat, (o : Int) < b.dow → sco b (o : Nat) t ≤ sco b (one : Nat) t

theorem worst_ge {b : Bk} (hv : BV b) {t : List Int} (ht : IsT b t) {one o : Nat} (h1 : one < 4) (h2 : o < 4) : sco b (o : Nat) t - sco b (one : Nat) t ≤ worst b one o := by
  rw [sco_sum hv ht h1, sco_sum hv ht h2, ← sumN_sub]
  exact sumN_le _ fun p hp => mx_ge (f := dif o one) (truth_ch ht hp)

theorem worst_at {b : Bk} (hv : BV b) {one o : Nat} (h1 : one < 4) (h2 : o < 4) : ∃ t, IsT b t ∧ sco b (o : Nat) t - sco b (one : Nat) t = worst b one o := by
  obtain ⟨v, hv2⟩ := pick_of (b := b) (Q := fun p x => mx (dif o one) (chA b p) = dif o one x) fun p hp => mx_mem (chA_pos hv hp)
  obtain ⟨t, ht, h3⟩ := truth_of v fun p hp => (hv2 p hp).1
  refine ⟨t, ht, ?_⟩
  rw [sco_sum hv ht h1, sco_sum hv ht h2, ← sumN_sub]
  exact sumN_congr _ fun p hp => by rw [(hv2 p hp).2, h3 p hp]; rfl

theorem surely_iff {b : Bk} (hv : BV b) {one : Nat} (h1 : one < 4) : surelyB b one = true ↔ ∀ t, IsT b t → LeadT b one t := by
  have hd := hv.dw
  unfold surelyB
  rw [List.all_eq_true]
  constructor
  · intro h t ht o ho
    have := of_decide_eq_true (h o (List.mem_range.2 (by omega)))
    have := worst_ge hv ht h1 (o := o) (by omega)
    omega
  · intro h o ho
    have ho := List.mem_range.1 ho
    apply decide_eq_true
    obtain ⟨t, ht, e⟩ := worst_at hv h1 (o := o) (by omega)
    have := h t ht o (by omega)
    omega

/-- How far all are ahead, behind one more choice. -/
def addv (b : Bk) (one : Nat) (a x : List Int) : List Int := (List.range 4).map fun o : Nat => if ((o : Nat) : Int) < b.dow then a[o]?.getD default + dif o one x else a[o]?.getD default

/-- One can lead, with the last k places to come. -/
def canB (b : Bk) (one : Nat) : Nat → List Int → Bool
  | 0, a => (List.range b.dow.toNat).all fun o => decide (a[o]?.getD default ≤ 0)
  | k + 1, a => (chA b (b.found.length - (k + 1))).any fun x => canB b one k (addv b one a x)

theorem addv_at {b : Bk} {one : Nat} {a x : List Int} {o : Nat} (h : o < 4) (ho : (o : Int) < b.dow) : (addv b one a x)[o]?.getD default = a[o]?.getD default + dif o one x := by simp [addv, h, ho]

/-- What is known of whether one leads. -/
def leadsI (b : Bk) (one : Nat) : Int := if surelyB b one then 1 else if canB b one b.found.length [0, 0, 0, 0] then 3 else 2

/-- By how much one can still come nearer to another one, at the last k places. -/
def gn (b : Bk) (one o : Nat) : Nat → Int
  | 0 => 0
  | k + 1 => gn b one o k + mx (dif one o) (chA b (b.found.length - (k + 1)))

theorem can_gain {b : Bk} (hv : BV b) (one : Nat) : ∀ (k : Nat) (a : List Int), canB b one k a = true → ∀ o : Nat, (o : Int) < b.dow → a[o]?.getD default ≤ gn b one o k
  | 0, a, h, o, ho => by
    simp only [canB, List.all_eq_true, List.mem_range, decide_eq_true_eq] at h
    have := h o (by omega)
    simpa [gn] using this
  | k + 1, a, h, o, ho => by
    have hd := hv.dw
    simp only [canB, List.any_eq_true] at h
    obtain ⟨x, hx, hc⟩ := h
    have h1 := can_gain hv one k _ hc o ho
    rw [addv_at (by omega) ho] at h1
    have h2 := mx_ge (f := dif one o) hx
    have h3 : dif one o x = - dif o one x := by unfold dif; omega
    simp only [gn]
    omega

end Go.Proofs.Ytpangdaijhiohaa.Do


/- Between of the program. -/
set_option linter.unusedSimpArgs false
set_option linter.unusedVariables false
set_option linter.unnecessarySimpa false
namespace Go.Proofs.Ytpangdaijhiohaa.Do
open Go Go.V

theorem ask_0 {b : Bk} {is : Bool} (h : askE b is = 0) : BV b ∧ is = true := by
  unfold askE at h
  cases hc : checkB b with
  | false => simp [hc] at h
  | true =>
    cases is with
    | false => simp [hc] at h
    | true => exact ⟨bv_of hc, rfl⟩

theorem dow_in {b : Bk} (hv : BV b) {d : Int} (h : within d 0 (w64 (b.dow - 1)) = true) : 0 ≤ d ∧ d < b.dow := by
  have hd := hv.dw
  rw [w64_id (by omega), within_iff] at h
  omega

theorem chA_at {b : Bk} {p i : Nat} (hi : i < (chA b p).length) : ∃ k, okD b p k ∧ (chA b p)[i]?.getD default = chL b p k := mem_chA.1 (getD_mem hi)

theorem chA_l4 {b : Bk} {p i : Nat} (hi : i < (chA b p).length) : ((chA b p)[i]?.getD default).length = 4 := by
  obtain ⟨k, _, e⟩ := chA_at hi
  rw [e]; exact chK_len b p k b.say.length

theorem chA_bd {b : Bk} (hv : BV b) (hn : b.say.length < 4294967296) {p : Nat} {x : List Int} (hx : x ∈ chA b p) {d : Nat} (hd : d < 4) : -51539607552 ≤ x[d]?.getD default ∧ x[d]?.getD default ≤ 51539607552 := by
  obtain ⟨k, _, rfl⟩ := mem_chA.1 hx
  rw [chL_at b p k hd]
  have := chS_bd hv p k (d : Nat) b.say.length (Nat.le_refl _)
  omega

theorem mxK_bd {f : List Int → Int} {l : List (List Int)} {lo hi : Int} (h0 : 0 < l.length) (h : ∀ x ∈ l, lo ≤ f x ∧ f x ≤ hi) {k : Nat} (hk : k ≤ l.length) : lo ≤ mxK f l k ∧ mxK f l k ≤ hi := by
  obtain ⟨j, h1, h2⟩ := mxK_at f l h0 k hk
  rw [h2]; exact h _ (getD_mem h1)

theorem c57A (b : Bk) (hv : BV b) (hn : b.say.length < 4294967296) (p : Nat) (hp : p < b.found.length) : Ctr Try.prog 57 [OB b, .int p] (.sl 4 ((chA b p).map VL) .sh) := c57 b hv hn p hp b.depth.toNat (by have := hv.dp; omega)

def btwR (b : Bk) (d : Int) : AV := let e := askE b (within d 0 (w64 (b.dow - 1))); .tup [.agg [.int (if e = 0 then lowB b d.toNat else 0), .int (if e = 0 then higB b d.toNat else 0)], .int e]

end Go.Proofs.Ytpangdaijhiohaa.Do


/- run: a race made ready. -/
set_option linter.unusedSimpArgs false
set_option linter.unusedVariables false
set_option linter.unnecessarySimpa false
namespace Go.Proofs.Ytpangdaijhiohaa.Do
open Go Go.V

theorem cells_ref {sz i off : Nat} {l : List AV} : (AV.ref sz l i off).cells = [.ref sz l i off] := rfl

attribute [go_sem] cells_ref

abbrev CH (b : Bk) (p : Nat) : AV := .sl 4 ((chA b p).map VL) .sh

def gnL (b : Bk) (one : Nat) : List (List Int) := (List.range (b.found.length + 1)).map fun q => (List.range 4).map fun o : Nat => if ((o : Nat) : Int) < b.dow then gn b one o (b.found.length - q) else 0

/-- A race. -/
abbrev RC (b : Bk) (one : Nat) : AV := .ref 4 [.agg [OB b, .int one, .sl 1 ((List.range b.found.length).map (CH b)) .sh, .sl 4 ((gnL b one).map VL) .sh]] 0 0

def mdP : Nat → VM
  | 0 => .full
  | _ + 1 => .own 34

def tkP : Nat → TkL
  | 0 => []
  | k + 1 => [(34, k + 1)]

theorem mdP_0 : mdP 0 = .full := rfl

theorem mdP_s {k : Nat} : mdP (k + 1) = .own 34 := rfl

theorem tkP_0 : tkP 0 = [] := rfl

theorem tkP_s {k : Nat} : tkP (k + 1) = [(34, k + 1)] := rfl

theorem inS_mdP {fr : FrL} {hp : HpL} {pd : Option Ex} {P sz : Nat} {l : List AV} : inScope ⟨fr, hp, tkP P, pd⟩ (.sl sz l (mdP P)) = True := by
  cases P with
  | zero => rfl
  | succ k => simp [inScope, mdP, tkP, getT]

theorem leTk_tkP {τ : AS} {P : Nat} : leTk τ (tkP P) (tkP P) = True := by
  cases P with
  | zero => rfl
  | succ k => simp [leTk, tkP, getT]

/-- The gains of all places, one behind the other, so far as they are known. -/
def gcF (b : Bk) (one r j c : Nat) : Int := if (((c % 4 : Nat) : Int) < b.dow ∧ b.found.length - r ≤ c / 4) ∨ (c / 4 + 1 = b.found.length - r ∧ c % 4 < j) then gn b one (c % 4) (b.found.length - c / 4) else 0

def gcs (b : Bk) (one r j : Nat) : List Int := (List.range (4 * (b.found.length + 1))).map (gcF b one r j)

theorem gcs_len (b : Bk) (one r j : Nat) : (gcs b one r j).length = 4 * (b.found.length + 1) := by simp [gcs]

theorem gcs_get (b : Bk) (one r j c : Nat) (h : c < 4 * (b.found.length + 1)) : (gcs b one r j)[c]?.getD default = gcF b one r j c := by simp [gcs, h]

theorem gcs_0 (b : Bk) (one : Nat) : gcs b one 0 0 = List.replicate (4 * (b.found.length + 1)) 0 := by
  apply List.ext_getElem (by simp [gcs])
  intro c h1 h2
  simp only [gcs, List.length_map, List.length_range] at h1
  simp only [gcs, List.getElem_map, List.getElem_range, List.getElem_replicate, gcF]
  split
  · rename_i h
    have e : b.found.length - c / 4 = 0 := by omega
    rw [e]; rfl
  · rfl

theorem gcs_read (b : Bk) (one r j : Nat) (hr : r < b.found.length) (hj : (j : Int) < b.dow) (hd : b.dow ≤ 4) : (gcs b one r j)[(b.found.length - r) * 4 + j]?.getD default = gn b one j r := by
  rw [gcs_get _ _ _ _ _ (by omega)]
  unfold gcF
  rw [if_pos (.inl (by omega))]
  congr 1
  · omega
  · omega

theorem gcs_set (b : Bk) (one r j : Nat) (hr : r < b.found.length) (hj : (j : Int) < b.dow) (hd : b.dow ≤ 4) : (gcs b one r j).set ((b.found.length - (r + 1)) * 4 + j) (gn b one j (r + 1)) = gcs b one r (j + 1) := by
  apply List.ext_getElem (by simp [gcs])
  intro c h1 h2
  simp only [gcs, List.length_map, List.length_range] at h2
  rw [List.getElem_set]
  simp only [gcs, List.getElem_map, List.getElem_range]
  by_cases e : (b.found.length - (r + 1)) * 4 + j = c
  · rw [if_pos e]
    unfold gcF
    rw [if_pos (.inr (by omega))]
    congr 1
    · omega
    · omega
  · rw [if_neg e]
    unfold gcF
    by_cases h : (((c % 4 : Nat) : Int) < b.dow ∧ b.found.length - r ≤ c / 4) ∨ (c / 4 + 1 = b.found.length - r ∧ c % 4 < j)
    · rw [if_pos h, if_pos (by omega)]
    · rw [if_neg h, if_neg (by omega)]

theorem gcs_next (b : Bk) (one r j : Nat) (hr : r < b.found.length) (hj : (j : Int) = b.dow) : gcs b one r j = gcs b one (r + 1) 0 := by
  unfold gcs
  apply List.map_congr_left
  intro c hc
  have hc := List.mem_range.1 hc
  unfold gcF
  by_cases h : (((c % 4 : Nat) : Int) < b.dow ∧ b.found.length - r ≤ c / 4) ∨ (c / 4 + 1 = b.found.length - r ∧ c % 4 < j)
  · rw [if_pos h, if_pos (by omega)]
  · rw [if_neg h, if_neg (by omega)]

theorem gcs_chunks (b : Bk) (one : Nat) : chunks true 4 ((gcs b one b.found.length 0).map AV.int) 0 (b.found.length + 1) = (gnL b one).map VL := by
  apply List.ext_getElem?
  intro q
  rcases Nat.lt_or_ge q (b.found.length + 1) with hq | hq
  · rw [chunks_get _ _ _ _ _ _ hq]
    simp only [gnL, List.map_map, List.getElem?_map, List.getElem?_range hq, Option.map_some, Function.comp, Option.some.injEq, chunk, if_true, VL, AV.agg.injEq]
    apply List.ext_getElem
    · simp [gcs_len]; omega
    · intro o h1 h2
      simp only [List.length_map, List.length_range] at h2
      simp only [List.getElem_take, List.getElem_drop, List.getElem_map, gcs, List.getElem_range, AV.int.injEq, gcF, Function.comp]
      by_cases hd : (o : Int) < b.dow
      · rw [if_pos hd, if_pos (.inl (by omega))]
        congr 1
        · omega
        · omega
      · rw [if_neg hd, if_neg (by omega)]
  · rw [List.getElem?_eq_none (by rw [chunks_length]; exact hq), List.getElem?_eq_none (by simpa [gnL] using hq)]

theorem gn_bd {b : Bk} (hv : BV b) (hn : b.say.length < 4294967296) {one o : Nat} (h1 : one < 4) (h2 : o < 4) : ∀ k, k ≤ b.found.length → -(103079215104 * (k : Int)) ≤ gn b one o k ∧ gn b one o k ≤ 103079215104 * (k : Int)
  | 0, _ => by simp [gn]
  | k + 1, hk => by
    have ih := gn_bd hv hn h1 h2 k (by omega)
    have := mxK_bd (f := dif one o) (l := chA b (b.found.length - (k + 1))) (lo := -103079215104) (hi := 103079215104) (chA_pos hv (by omega)) (fun x hx => by
      have a1 := chA_bd hv hn hx h1
      have a2 := chA_bd hv hn hx h2
      unfold dif; omega) (Nat.le_refl _)
    simp only [gn, mx]
    omega

theorem zeros4 (n : Nat) : zeros [.int 0, .int 0, .int 0, .int 0] n = (List.replicate (4 * n) (0 : Int)).map .int := by
  induction n with
  | zero => rfl
  | succ n ih =>
    rw [show 4 * (n + 1) = 4 * n + 1 + 1 + 1 + 1 by omega]
    simp only [zeros, ih, List.replicate_succ, List.map_cons]
    rfl

theorem c48 (b : Bk) (hv : BV b) (hn : b.say.length < 4294967296) (one : Nat) (ho : (one : Int) < b.dow) : Ctr Try.prog 48 [OB b, .int one] (RC b one) := by
  refine ctr_of_wp hmix Try.func48 m48 rfl ?_
  unfold v48
  have hdw := hv.dw
  have hfl := hv.fl
  simp -failIfUnchanged (disch := first | omega | (simp <;> omega) | fail) only [go_sem, simprocAttr]
  refine wp_loop' Nat (fun p => ⟨[(0, OB b), (1, .int one), (5, .ptr 15 0), (21, .int b.found.length), (22, .int p)], [(15, ⟨[OB b, .int one, .sl 1 ((List.range p).map (CH b)) (mdP p), .sl 4 [] .full], false⟩)], tkP p, none⟩) (fun p => p ≤ b.found.length) (fun p => b.found.length - p) 0 (by simp) (by simp -failIfUnchanged (disch := first | omega | (simp <;> omega) | fail) only [go_sem, simprocAttr, mdP_0, tkP_0, List.range_zero]; try simp) ?_
  intro p hp
  have hp : p ≤ b.found.length := hp
  simp -failIfUnchanged (disch := first | omega | (simp <;> omega) | fail) only [go_sem, simprocAttr]
  refine wcond_dec (fun hc => ?_) (fun hc => ?_)
  · have hpl : p < b.found.length := by omega
    cases p with
    | zero =>
      simp -failIfUnchanged (disch := first | omega | (simp <;> omega) | fail) only [go_sem, simprocAttr, mdP_0, tkP_0]
      refine wcall (c57A b hv hn 0 hpl) ?_
      simp -failIfUnchanged (disch := first | omega | (simp <;> omega) | fail) only [go_sem, simprocAttr, mdP_0, tkP_0]
      refine ⟨1, by dsimp only; omega, by dsimp only; omega, ?_⟩
      simp -failIfUnchanged (disch := first | omega | (simp <;> omega) | fail) only [go_sem, simprocAttr, mdP_s, tkP_s]
      simp
    | succ k =>
      simp -failIfUnchanged (disch := first | omega | (simp <;> omega) | fail) only [go_sem, simprocAttr, mdP_s, tkP_s, List.length_range]
      refine wcall (c57A b hv hn (k + 1) hpl) ?_
      simp -failIfUnchanged (disch := first | omega | (simp <;> omega) | fail) only [go_sem, simprocAttr, mdP_s, tkP_s, List.length_range]
      refine ⟨k + 2, by dsimp only; omega, by dsimp only; omega, ?_⟩
      simp -failIfUnchanged (disch := first | omega | (simp <;> omega) | fail) only [go_sem, simprocAttr, mdP_s, tkP_s, List.length_range]
      simp [List.range_succ]
      omega
  · have e : p = b.found.length := by omega
    subst e
    have hz := zeros4 (b.found.length + 1)
    rw [← gcs_0 b one] at hz
    simp -failIfUnchanged (disch := first | omega | (simp <;> omega) | fail) only [go_sem, simprocAttr, hz]
    generalize hM : mdP b.found.length = M
    generalize hT : tkP b.found.length = T
    have hS : ∀ {fr : FrL} {hp : HpL} {pd : Option Ex} {sz : Nat} {l : List AV}, inScope ⟨fr, hp, T, pd⟩ (.sl sz l M) = True := by rw [← hM, ← hT]; exact inS_mdP
    have hL : ∀ {τ : AS}, leTk τ T T = True := by rw [← hT]; exact leTk_tkP
    refine wp_loop' Nat (fun r => ⟨[(0, OB b), (1, .int one), (5, .ptr 15 0), (7, .int ((b.found.length : Int) - 1 - r))], [(46, ⟨(gcs b one r 0).map .int, false⟩), (15, ⟨[OB b, .int one, .sl 1 ((List.range b.found.length).map (CH b)) M, .bsl 46 0 4 (b.found.length + 1) true], false⟩)], T, none⟩) (fun r => r ≤ b.found.length) (fun r => b.found.length - r) 0 (by simp) (by simp -failIfUnchanged (disch := first | omega | (simp <;> omega) | fail) only [go_sem, simprocAttr, hS, hL]; try simp) ?_
    intro r hr
    have hr : r ≤ b.found.length := hr
    simp -failIfUnchanged (disch := first | omega | (simp <;> omega) | fail) only [go_sem, simprocAttr]
    refine wcond_dec (fun hc => ?_) (fun hc => ?_)
    · have hrl : r < b.found.length := by omega
      obtain ⟨q, hq⟩ : ∃ q, b.found.length - (r + 1) = q := ⟨_, rfl⟩
      have hqi : (b.found.length : Int) - 1 - r = (q : Nat) := by omega
      have hql : q < b.found.length := by omega
      obtain ⟨dw, hdwn⟩ : ∃ dw : Nat, b.dow = dw := ⟨b.dow.toNat, by omega⟩
      simp -failIfUnchanged (disch := first | omega | (simp <;> omega) | fail) only [go_sem, simprocAttr, hdwn, hqi]
      refine wp_loop' Nat (fun j => ⟨[(0, OB b), (1, .int one), (5, .ptr 15 0), (7, .int q), (64, .int dw), (65, .int j)], [(46, ⟨(gcs b one r j).map .int, false⟩), (15, ⟨[OB b, .int one, .sl 1 ((List.range b.found.length).map (CH b)) M, .bsl 46 0 4 (b.found.length + 1) true], false⟩)], T, none⟩) (fun j => j ≤ dw) (fun j => dw - j) 0 (by simp) (by simp -failIfUnchanged (disch := first | omega | (simp <;> omega) | fail) only [go_sem, simprocAttr, hS, hL]; try simp) ?_
      intro j hj
      have hj : j ≤ dw := hj
      simp -failIfUnchanged (disch := first | omega | (simp <;> omega) | fail) only [go_sem, simprocAttr]
      refine wcond_dec (fun hc2 => ?_) (fun hc2 => ?_)
      · have hjl : j < dw := by omega
        have hA0 := chA_pos hv hql
        have hA12 := chA_len hv q
        have hA4 : ∀ i, i < (chA b q).length → ((chA b q)[i]?.getD default).length = 4 := fun i hi => chA_l4 hi
        have h04 := hA4 0 hA0
        have hrg : (List.range b.found.length)[q]?.getD default = q := by simp [hql]
        have hb1 : ∀ i, i < (chA b q).length → ∀ d, d < 4 → -51539607552 ≤ ((chA b q)[i]?.getD default)[d]?.getD default ∧ ((chA b q)[i]?.getD default)[d]?.getD default ≤ 51539607552 := fun i hi d hd => chA_bd hv hn (getD_mem hi) hd
        have b1 := hb1 0 hA0 one (by omega)
        have b2 := hb1 0 hA0 j (by omega)
        simp -failIfUnchanged (disch := first | omega | (simp <;> omega) | fail) only [go_sem, simprocAttr, List.length_range, hrg]
        refine wp_loop' Nat (fun i => ⟨[(0, OB b), (1, .int one), (5, .ptr 15 0), (7, .int q), (8, .int j), (9, .int (mxK (dif one j) (chA b q) i)), (64, .int dw), (65, .int j), (97, CH b q), (98, .int (chA b q).length), (99, .int i)], [(46, ⟨(gcs b one r j).map .int, false⟩), (15, ⟨[OB b, .int one, .sl 1 ((List.range b.found.length).map (CH b)) M, .bsl 46 0 4 (b.found.length + 1) true], false⟩)], T, none⟩) (fun i => i ≤ (chA b q).length) (fun i => (chA b q).length - i) 0 (by simp) (by simp -failIfUnchanged (disch := first | omega | (simp <;> omega) | fail) only [go_sem, simprocAttr, hS, hL]; try simp [mxK, dif]) ?_
        intro i hi
        have hi : i ≤ (chA b q).length := hi
        simp -failIfUnchanged (disch := first | omega | (simp <;> omega) | fail) only [go_sem, simprocAttr]
        refine wcond_dec (fun hc3 => ?_) (fun hc3 => ?_)
        · have hil : i < (chA b q).length := by omega
          have hi4 := hA4 i hil
          have htk : List.take 4 (List.map AV.int ((chA b q)[i]?.getD default)) = List.map AV.int ((chA b q)[i]?.getD default) := List.take_of_length_le (by simp; omega)
          have b3 := hb1 i hil one (by omega)
          have b4 := hb1 i hil j (by omega)
          simp -failIfUnchanged (disch := first | omega | (simp <;> omega) | fail) only [go_sem, simprocAttr, htk, hi4]
          refine ⟨i + 1, by dsimp only; omega, by dsimp only; omega, ?_⟩
          dsimp only [mxK, dif]
          simp -failIfUnchanged (disch := first | omega | (simp <;> omega) | fail) only [go_sem, simprocAttr, hS, hL]
          try simp
        · have e : i = (chA b q).length := by omega
          subst e
          have hgl := gcs_len b one r j
          have hrd : (gcs b one r j)[(q + 1) * 4 + j]?.getD default = gn b one j r := by
            have := gcs_read b one r j hrl (by omega) (by omega)
            rwa [show b.found.length - r = q + 1 by omega] at this
          have hset : (gcs b one r j).set (q * 4 + j) (gn b one j (r + 1)) = gcs b one r (j + 1) := by
            have := gcs_set b one r j hrl (by omega) (by omega)
            rwa [hq] at this
          have hg : gn b one j r + mxK (dif one j) (chA b q) (chA b q).length = gn b one j (r + 1) := by
            show _ = gn b one j r + mx (dif one j) (chA b (b.found.length - (r + 1)))
            rw [hq]
            rfl
          have hgb := gn_bd hv hn (one := one) (o := j) (by omega) (by omega) (r + 1) (by omega)
          have hw : w64 (gn b one j (r + 1)) = gn b one j (r + 1) := w64_id (by omega)
          simp -failIfUnchanged (disch := first | omega | (simp <;> omega) | fail) only [go_sem, simprocAttr, hgl, hrd, hg, hw, hset]
          refine ⟨j + 1, by dsimp only; omega, by dsimp only; omega, ?_⟩
          simp -failIfUnchanged (disch := first | omega | (simp <;> omega) | fail) only [go_sem, simprocAttr, hS, hL]
          try simp
      · have e : j = dw := by omega
        subst e
        simp -failIfUnchanged (disch := first | omega | (simp <;> omega) | fail) only [go_sem, simprocAttr]
        refine ⟨r + 1, by dsimp only; omega, by dsimp only; omega, ?_⟩
        have hnx := gcs_next b one r j hrl hdwn.symm
        rw [hnx]
        simp -failIfUnchanged (disch := first | omega | (simp <;> omega) | fail) only [go_sem, simprocAttr, hS, hL]
        omega
    · have e : r = b.found.length := by omega
      subst e
      simp -failIfUnchanged (disch := first | omega | (simp <;> omega) | fail) only [go_sem, simprocAttr]
      refine wopsN [46] ?_
      have hcnd : (b.found.length + 1) * 4 ≤ (gcs b one b.found.length 0).length := by rw [gcs_len]; omega
      simp -failIfUnchanged (disch := first | omega | (simp <;> omega) | fail) only [go_sem, simprocAttr, hcnd, gcs_chunks]

end Go.Proofs.Ytpangdaijhiohaa.Do


/- surely. -/
set_option linter.unusedSimpArgs false
set_option linter.unusedVariables false
set_option linter.unnecessarySimpa false
namespace Go.Proofs.Ytpangdaijhiohaa.Do
open Go Go.V

def wsP (b : Bk) (one o k : Nat) : Int := sumN (fun p => mx (dif o one) (chA b p)) k

theorem dif_bd {b : Bk} (hv : BV b) (hn : b.say.length < 4294967296) {one o p : Nat} (h1 : one < 4) (h2 : o < 4) {x : List Int} (hx : x ∈ chA b p) : -103079215104 ≤ dif o one x ∧ dif o one x ≤ 103079215104 := by
  have a1 := chA_bd hv hn hx h1
  have a2 := chA_bd hv hn hx h2
  unfold dif; omega

theorem wsP_bd {b : Bk} (hv : BV b) (hn : b.say.length < 4294967296) {one o : Nat} (h1 : one < 4) (h2 : o < 4) : ∀ k, k ≤ b.found.length → -618475290624 ≤ wsP b one o k ∧ wsP b one o k ≤ 618475290624 := by
  intro k hk
  have := sumN_bd (f := fun p => mx (dif o one) (chA b p)) (lo := -103079215104) (hi := 103079215104) k fun p hp => mxK_bd (chA_pos hv (by omega)) (fun x hx => dif_bd hv hn h1 h2 hx) (Nat.le_refl _)
  have h6 := hv.fl
  unfold wsP
  omega

theorem c49 (b : Bk) (hv : BV b) (hn : b.say.length < 4294967296) (one : Nat) (ho : (one : Int) < b.dow) : Ctr Try.prog 49 [RC b one] (.bool (surelyB b one)) := by
  refine ctr_of_wp hmix Try.func49 m49 rfl ?_
  unfold v49
  have hdw := hv.dw
  have hfl := hv.fl
  obtain ⟨dw, hdwn⟩ : ∃ dw : Nat, b.dow = dw := ⟨b.dow.toNat, by omega⟩
  have hsb : surelyB b one = (List.range dw).all fun o => decide (worst b one o ≤ 0) := by unfold surelyB; rw [hdwn]; rfl
  rw [hsb]
  simp -failIfUnchanged (disch := first | omega | (simp <;> omega) | fail) only [go_sem, simprocAttr, hdwn]
  refine wp_loop' Nat (fun o => ⟨[(0, RC b one), (17, .int dw), (18, .int o)], [], [], none⟩) (fun o => o ≤ dw ∧ ∀ j, j < o → worst b one j ≤ 0) (fun o => dw - o) 0 (by simp) (by simp -failIfUnchanged (disch := first | omega | (simp <;> omega) | fail) only [go_sem, simprocAttr]; try simp) ?_
  rintro o ⟨hol, hpre⟩
  simp -failIfUnchanged (disch := first | omega | (simp <;> omega) | fail) only [go_sem, simprocAttr]
  refine wcond_dec (fun hc => ?_) (fun hc => ?_)
  · have hlt : o < dw := by omega
    simp -failIfUnchanged (disch := first | omega | (simp <;> omega) | fail) only [go_sem, simprocAttr]
    refine wp_loop' Nat (fun p => ⟨[(0, RC b one), (3, .int o), (4, .int (wsP b one o p)), (17, .int dw), (18, .int o), (24, .sl 1 ((List.range b.found.length).map (CH b)) .sh), (25, .int b.found.length), (26, .int p)], [], [], none⟩) (fun p => p ≤ b.found.length) (fun p => b.found.length - p) 0 (by simp) (by simp -failIfUnchanged (disch := first | omega | (simp <;> omega) | fail) only [go_sem, simprocAttr, List.length_range]; simp [wsP, sumN]) ?_
    intro p hp
    have hp : p ≤ b.found.length := hp
    simp -failIfUnchanged (disch := first | omega | (simp <;> omega) | fail) only [go_sem, simprocAttr]
    refine wcond_dec (fun hc2 => ?_) (fun hc2 => ?_)
    · have hpl : p < b.found.length := by omega
      have hA0 := chA_pos hv hpl
      have hA12 := chA_len hv p
      have hA4 : ∀ i, i < (chA b p).length → ((chA b p)[i]?.getD default).length = 4 := fun i hi => chA_l4 hi
      have h04 := hA4 0 hA0
      have hrg : (List.range b.found.length)[p]?.getD default = p := by simp [hpl]
      have hb1 : ∀ i, i < (chA b p).length → ∀ d, d < 4 → -51539607552 ≤ ((chA b p)[i]?.getD default)[d]?.getD default ∧ ((chA b p)[i]?.getD default)[d]?.getD default ≤ 51539607552 := fun i hi d hd => chA_bd hv hn (getD_mem hi) hd
      have b1 := hb1 0 hA0 one (by omega)
      have b2 := hb1 0 hA0 o (by omega)
      simp -failIfUnchanged (disch := first | omega | (simp <;> omega) | fail) only [go_sem, simprocAttr, List.length_range, hrg]
      refine wp_loop' Nat (fun i => ⟨[(0, RC b one), (3, .int o), (4, .int (wsP b one o p)), (7, .int (mxK (dif o one) (chA b p) i)), (17, .int dw), (18, .int o), (24, .sl 1 ((List.range b.found.length).map (CH b)) .sh), (25, .int b.found.length), (26, .int p), (44, CH b p), (45, .int (chA b p).length), (46, .int i)], [], [], none⟩) (fun i => i ≤ (chA b p).length) (fun i => (chA b p).length - i) 0 (by simp) (by simp -failIfUnchanged (disch := first | omega | (simp <;> omega) | fail) only [go_sem, simprocAttr]; try simp [mxK, dif]) ?_
      intro i hi
      have hi : i ≤ (chA b p).length := hi
      simp -failIfUnchanged (disch := first | omega | (simp <;> omega) | fail) only [go_sem, simprocAttr]
      refine wcond_dec (fun hc3 => ?_) (fun hc3 => ?_)
      · have hil : i < (chA b p).length := by omega
        have hi4 := hA4 i hil
        have htk : List.take 4 (List.map AV.int ((chA b p)[i]?.getD default)) = List.map AV.int ((chA b p)[i]?.getD default) := List.take_of_length_le (by simp; omega)
        have b3 := hb1 i hil one (by omega)
        have b4 := hb1 i hil o (by omega)
        simp -failIfUnchanged (disch := first | omega | (simp <;> omega) | fail) only [go_sem, simprocAttr, htk, hi4]
        refine ⟨i + 1, by dsimp only; omega, by dsimp only; omega, ?_⟩
        dsimp only [mxK, dif]
        simp -failIfUnchanged (disch := first | omega | (simp <;> omega) | fail) only [go_sem, simprocAttr]
        try simp
      · have e : i = (chA b p).length := by omega
        subst e
        have hs : wsP b one o p + mxK (dif o one) (chA b p) (chA b p).length = wsP b one o (p + 1) := rfl
        have hwb := wsP_bd hv hn (one := one) (o := o) (by omega) (by omega) (p + 1) (by omega)
        have hw : w64 (wsP b one o (p + 1)) = wsP b one o (p + 1) := w64_id (by omega)
        simp -failIfUnchanged (disch := first | omega | (simp <;> omega) | fail) only [go_sem, simprocAttr, hs, hw]
        refine ⟨p + 1, by dsimp only; omega, by dsimp only; omega, ?_⟩
        simp -failIfUnchanged (disch := first | omega | (simp <;> omega) | fail) only [go_sem, simprocAttr]
        try simp
    · have e : p = b.found.length := by omega
      subst e
      have hws : wsP b one o b.found.length = worst b one o := rfl
      simp -failIfUnchanged (disch := first | omega | (simp <;> omega) | fail) only [go_sem, simprocAttr, hws]
      refine wcond_dec (fun h3 => ?_) (fun h3 => ?_)
      · have key : ((List.range dw).all fun o => decide (worst b one o ≤ 0)) = false := List.all_eq_false.2 ⟨o, List.mem_range.2 hlt, by simp; omega⟩
        rw [key]
        simp -failIfUnchanged (disch := first | omega | (simp <;> omega) | fail) only [go_sem, simprocAttr]
      · simp -failIfUnchanged (disch := first | omega | (simp <;> omega) | fail) only [go_sem, simprocAttr]
        refine ⟨o + 1, ⟨by omega, fun j hj => ?_⟩, by dsimp only; omega, ?_⟩
        · rcases Nat.lt_or_ge j o with h4 | h4
          · exact hpre j h4
          · obtain rfl : j = o := by omega
            omega
        · simp -failIfUnchanged (disch := first | omega | (simp <;> omega) | fail) only [go_sem, simprocAttr]
          try simp
  · have e : o = dw := by omega
    subst e
    have key : ((List.range o).all fun o => decide (worst b one o ≤ 0)) = true := List.all_eq_true.2 fun j hj => decide_eq_true (hpre j (List.mem_range.1 hj))
    rw [key]
    simp -failIfUnchanged (disch := first | omega | (simp <;> omega) | fail) only [go_sem, simprocAttr]

end Go.Proofs.Ytpangdaijhiohaa.Do


/- may: a map that says what has failed. -/
set_option linter.unusedSimpArgs false
set_option linter.unusedVariables false
set_option linter.unnecessarySimpa false
namespace Go.Proofs.Ytpangdaijhiohaa.Do
open Go Go.V

theorem tidy_mpr {hp : HpL} {l : Nat} : tidy hp (.mpr l) = .mpr l := rfl

theorem tidy_nilp {hp : HpL} : tidy hp .nilp = .nilp := rfl

attribute [go_sem] tidy_mpr tidy_nilp

/-- What the map says: with these one cannot lead. -/
def mInv (b : Bk) (one : Nat) (kv : List (List Int × Int)) : Prop := ∀ xs, kvget kv xs = 0 ∨ (kvget kv xs = 1 ∧ ∃ (k : Nat) (a : List Int), k ≤ b.found.length ∧ xs = ((b.found.length - k : Nat) : Int) :: a ∧ canB b one k a = false)

/-- How far all are ahead, the first j with one more choice. -/
def nxK (one : Nat) (a x : List Int) (j : Nat) : List Int := (List.range 4).map fun o => if o < j then a[o]?.getD default + dif o one x else a[o]?.getD default

theorem nxK_len (one : Nat) (a x : List Int) (j : Nat) : (nxK one a x j).length = 4 := by simp [nxK]

theorem nxK_0 (one : Nat) (a x : List Int) (h : a.length = 4) : nxK one a x 0 = a := by
  apply List.ext_getElem (by simp [nxK, h])
  intro i h1 h2
  simp [nxK, h2]

theorem nxK_at (one : Nat) (a x : List Int) (j : Nat) (h : j < 4) : (nxK one a x j)[j]?.getD default = a[j]?.getD default := by simp [nxK, h]

theorem nxK_set (one : Nat) (a x : List Int) (j : Nat) (h : j < 4) : (nxK one a x j).set j (a[j]?.getD default + dif j one x) = nxK one a x (j + 1) := by
  apply List.ext_getElem (by simp [nxK])
  intro i h1 h2
  rw [List.getElem_set]
  simp only [nxK, List.getElem_map, List.getElem_range]
  by_cases e : j = i
  · subst e
    rw [if_pos rfl, if_pos (by omega)]
  · rw [if_neg e]
    by_cases h3 : i < j
    · rw [if_pos h3, if_pos (by omega)]
    · rw [if_neg h3, if_neg (by omega)]

theorem nxK_addv (b : Bk) (one : Nat) (a x : List Int) {dw : Nat} (h : b.dow = dw) : nxK one a x dw = addv b one a x := by
  unfold nxK addv
  apply List.map_congr_left
  intro o _
  by_cases e : o < dw
  · rw [if_pos e, if_pos (by omega)]
  · rw [if_neg e, if_neg (by omega)]

def aBd (a : List Int) (n : Nat) : Prop := a.length = 4 ∧ ∀ o, o < 4 → -(103079215104 * (n : Int)) ≤ a[o]?.getD default ∧ a[o]?.getD default ≤ 103079215104 * (n : Int)

theorem aBd_add {b : Bk} (hv : BV b) (hn : b.say.length < 4294967296) {one p : Nat} (h1 : one < 4) {a x : List Int} (hx : x ∈ chA b p) {n : Nat} (h : aBd a n) : aBd (addv b one a x) (n + 1) := by
  refine ⟨by simp [addv], fun o ho => ?_⟩
  have h2 := h.2 o ho
  have h3 := dif_bd hv hn h1 ho hx
  have e : (addv b one a x)[o]?.getD default = if (o : Int) < b.dow then a[o]?.getD default + dif o one x else a[o]?.getD default := by simp [addv, ho]
  rw [e]
  split <;> omega

theorem gnL_at (b : Bk) (one q : Nat) (hq : q ≤ b.found.length) : ∃ G, (gnL b one)[q]?.getD default = G ∧ G.length = 4 ∧ ∀ o : Nat, (o : Int) < b.dow → o < 4 → G[o]?.getD default = gn b one o (b.found.length - q) := by
  refine ⟨_, rfl, ?_, fun o h1 h2 => ?_⟩
  · simp [gnL, show q < b.found.length + 1 by omega]
  · simp [gnL, show q < b.found.length + 1 by omega, h2, h1]

theorem gnL_len (b : Bk) (one : Nat) : (gnL b one).length = b.found.length + 1 := by simp [gnL]

def mayQ (b : Bk) (one l q : Nat) (r : Bool) (kv : List (List Int × Int)) : AV → HpL → TkL → Option Ex → Prop := fun v _ _ pd' =>
  v = .bool r ∧ ∃ kv', pd' = some (.mp l 5 kv') ∧ mInv b one kv' ∧ ∀ (p : Nat) (a : List Int), p < q → kvget kv' ((p : Int) :: a) = kvget kv ((p : Int) :: a)

theorem c50w (b : Bk) (hv : BV b) (hn : b.say.length < 4294967296) (one : Nat) (ho : (one : Int) < b.dow) (l : Nat) (k : Nat) (hk : k ≤ b.found.length)
    (ih : ∀ k', k = k' + 1 → ∀ (a : List Int) (kv : List (List Int × Int)) (X : List FrL), aBd a (b.found.length - k') → mInv b one kv → leX ⟨[], [], [], none⟩ X →
    CSem ⟨Try.prog, X, none, false⟩ 50 [RC b one, .agg ((((b.found.length - k' : Nat) : Int) :: a).map .int), .mpr l] [] [] (some (.mp l 5 kv)) (mayQ b one l (b.found.length - k') (canB b one k' a) kv))
    (a : List Int) (kv : List (List Int × Int)) (X : List FrL) (ha : aBd a (b.found.length - k)) (hI : mInv b one kv) (hX : leX ⟨[], [], [], none⟩ X) :
    CSem ⟨Try.prog, X, none, false⟩ 50 [RC b one, .agg ((((b.found.length - k : Nat) : Int) :: a).map .int), .mpr l] [] [] (some (.mp l 5 kv)) (mayQ b one l (b.found.length - k) (canB b one k a) kv) := by
  obtain ⟨q, hq⟩ : ∃ q, b.found.length - k = q := ⟨_, rfl⟩
  rw [hq] at ha ⊢
  refine csem_of_wp hmix Try.func50 m50 rfl rfl ?_
  unfold v50
  have hXx : ∀ τ : AS, leX τ X := fun τ => leX_none rfl rfl hX
  have hdw := hv.dw
  have hfl := hv.fl
  obtain ⟨dw, hdwn⟩ : ∃ dw : Nat, b.dow = dw := ⟨b.dow.toNat, by omega⟩
  obtain ⟨S, hS⟩ : ∃ S : List Int, (q : Int) :: a = S := ⟨_, rfl⟩
  have hSl : S.length = 5 := by rw [← hS]; simp [ha.1]
  have hS0 : (S[0]?.getD default : Int) = (q : Int) := by rw [← hS]; rfl
  have hS1 : ∀ o : Nat, S[1 + o]?.getD default = a[o]?.getD default := fun o => by rw [← hS, Nat.add_comm]; rfl
  have htk5 : List.take 5 (List.map AV.int S) = List.map AV.int S := List.take_of_length_le (by simp; omega)
  rw [hS]
  simp -failIfUnchanged (disch := first | omega | (simp <;> omega) | fail) only [go_sem, simprocAttr, hSl]
  refine wopsN [4] ?_
  simp -failIfUnchanged (disch := first | omega | (simp <;> omega) | fail) only [go_sem, simprocAttr, hSl, hdwn]
  refine wp_loopY Nat (fun o => ⟨[(0, RC b one), (2, .mpr l), (4, .ref 5 [.agg (S.map .int)] 0 0), (19, .int dw), (20, .int o)], [], [], some (.mp l 5 kv)⟩) (fun o => o ≤ dw ∧ ∀ j, j < o → a[j]?.getD default ≤ gn b one j k) (fun o => dw - o) 0 (by simp) (by simp -failIfUnchanged (disch := first | omega | (simp <;> omega) | fail) only [go_sem, simprocAttr, hSl]; try simp) (fun x => hXx _) ?_
  rintro o ⟨hol, hpre⟩
  simp -failIfUnchanged (disch := first | omega | (simp <;> omega) | fail) only [go_sem, simprocAttr]
  refine wcond_dec (fun hc => ?_) (fun hc => ?_)
  · have hlt : o < dw := by omega
    obtain ⟨G, hG, hGl, hGo⟩ := gnL_at b one q (by omega)
    have hGo' := hGo o (by omega) (by omega)
    rw [show b.found.length - q = k by omega] at hGo'
    have hgl := gnL_len b one
    have hs1 := hS1 o
    simp -failIfUnchanged (disch := first | omega | (simp <;> omega) | fail) only [go_sem, simprocAttr, hSl, hS0, hs1, hG, hGl, hGo', hgl]
    refine wcond_dec (fun h7 => ?_) (fun h7 => ?_)
    · have hcf : canB b one k a = false := by
        cases hcb : canB b one k a with
        | false => rfl
        | true =>
          have := can_gain hv one k a hcb o (by omega)
          omega
      simp -failIfUnchanged (disch := first | omega | (simp <;> omega) | fail) only [go_sem, simprocAttr]
      rw [hcf]
      exact ⟨rfl, kv, rfl, hI, fun _ _ _ => rfl⟩
    · simp -failIfUnchanged (disch := first | omega | (simp <;> omega) | fail) only [go_sem, simprocAttr]
      refine lpy_norm (fun x => hXx _) ⟨o + 1, ⟨by omega, fun j hj => ?_⟩, by omega, ?_⟩
      · rcases Nat.lt_or_ge j o with h4 | h4
        · exact hpre j h4
        · obtain rfl : j = o := by omega
          omega
      · simp -failIfUnchanged (disch := first | omega | (simp <;> omega) | fail) only [go_sem, simprocAttr]
        try simp
  · have e : dw = o := by omega
    subst e
    have hlr : (List.range b.found.length).length = b.found.length := List.length_range
    have hql : q ≤ b.found.length := by omega
    simp -failIfUnchanged (disch := first | omega | (simp <;> omega) | fail) only [go_sem, simprocAttr, hSl, hS0, hlr]
    by_cases hk0 : k = 0
    · subst hk0
      have hqe : decide ((q : Int) = b.found.length) = true := decide_eq_true (by omega)
      have hct : canB b one 0 a = true := by
        simp only [canB, List.all_eq_true, List.mem_range, decide_eq_true_eq]
        intro j hj
        exact hpre j (by omega)
      simp -failIfUnchanged (disch := first | omega | (simp <;> omega) | fail) only [go_sem, simprocAttr, hqe]
      rw [hct]
      exact ⟨rfl, kv, rfl, hI, fun _ _ _ => rfl⟩
    · obtain ⟨k', rfl⟩ : ∃ k', k = k' + 1 := ⟨k - 1, by omega⟩
      have ih := ih k' rfl
      have hqe : decide ((q : Int) = b.found.length) = false := decide_eq_false (by omega)
      have hSr : ∀ y ∈ S, inR y := by
        intro y hy
        rw [← hS] at hy
        rcases List.mem_cons.1 hy with rfl | hy
        · unfold inR; omega
        · obtain ⟨o, h1, rfl⟩ := List.getElem_of_mem hy
          have h2 := ha.2 o (by have := ha.1; omega)
          rw [List.getElem?_eq_getElem h1] at h2
          have h3 : a[o] = (some a[o]).getD default := rfl
          unfold inR; omega
      have hA : chA b (b.found.length - (k' + 1)) = chA b q := by rw [hq]
      simp -failIfUnchanged (disch := first | omega | (simp <;> omega) | fail) only [go_sem, simprocAttr, hqe, htk5, hSl]
      refine wmlook mk100 hSl hSr ?_
      rcases hI S with h0 | ⟨h1, k2, a2, hk2, hS2, hc2⟩
      · simp -failIfUnchanged (disch := first | omega | (simp <;> omega) | fail) only [go_sem, simprocAttr, h0]
        have hqlt : q < b.found.length := by omega
        have hrg : (List.range b.found.length)[q]?.getD default = q := by simp [hqlt]
        have hA0 := chA_pos hv hqlt
        have hA12 := chA_len hv q
        simp -failIfUnchanged (disch := first | omega | (simp <;> omega) | fail) only [go_sem, simprocAttr, hS0, hlr, hrg, hSl]
        refine wp_loopY (Nat × List (List Int × Int)) (fun x => ⟨[(0, RC b one), (2, .mpr l), (4, .ref 5 [.agg (S.map .int)] 0 0), (58, CH b q), (59, .int (chA b q).length), (60, .int x.1)], [], [], some (.mp l 5 x.2)⟩) (fun x => x.1 ≤ (chA b q).length ∧ mInv b one x.2 ∧ (∀ j, j < x.1 → canB b one k' (addv b one a ((chA b q)[j]?.getD default)) = false) ∧ ∀ (p : Nat) (a' : List Int), p < q + 1 → kvget x.2 ((p : Int) :: a') = kvget kv ((p : Int) :: a')) (fun x => (chA b q).length - x.1) (0, kv) ⟨by simp, hI, by simp, fun _ _ _ => rfl⟩ (by simp -failIfUnchanged (disch := first | omega | (simp <;> omega) | fail) only [go_sem, simprocAttr, hSl]; try simp) (fun x => hXx _) ?_
        rintro ⟨i, kv2⟩ ⟨hil, hI2, hpre2, hag⟩
        dsimp only at hil hI2 hpre2 hag ⊢
        simp -failIfUnchanged (disch := first | omega | (simp <;> omega) | fail) only [go_sem, simprocAttr]
        refine wcond_dec (fun hc2 => ?_) (fun hc2 => ?_)
        · have hi : i < (chA b q).length := by omega
          obtain ⟨x, hx⟩ : ∃ x, (chA b q)[i]?.getD default = x := ⟨_, rfl⟩
          have hxm : x ∈ chA b q := by rw [← hx]; exact getD_mem hi
          have hx4 : x.length = 4 := by rw [← hx]; exact chA_l4 hi
          have htx : List.take 4 (List.map AV.int x) = List.map AV.int x := List.take_of_length_le (by simp; omega)
          have hta : List.take 4 (List.drop 1 (List.map AV.int S)) = List.map AV.int a := by rw [← hS]; exact List.take_of_length_le (by simp [ha.1])
          have ha4 := ha.1
          simp -failIfUnchanged (disch := first | omega | (simp <;> omega) | fail) only [go_sem, simprocAttr, hx, htx, hx4, hta, ha4, hS0, hSl]
          have hNl : ∀ j, (((q : Int) + 1) :: nxK one a x j).length = 5 := fun j => by simp [nxK_len]
          have hxb : ∀ d, d < 4 → -51539607552 ≤ x[d]?.getD default ∧ x[d]?.getD default ≤ 51539607552 := fun d hd => chA_bd hv hn hxm hd
          have hab := ha.2
          refine wp_loopY Nat (fun j => ⟨[(0, RC b one), (2, .mpr l), (4, .ref 5 [.agg (S.map .int)] 0 0), (9, .ptr 9 0), (10, .ptr 10 0), (58, CH b q), (59, .int (chA b q).length), (60, .int i), (77, .int dw), (78, .int j)], [(10, ⟨(((q : Int) + 1) :: nxK one a x j).map .int, false⟩), (9, ⟨x.map .int, false⟩)], [], some (.mp l 5 kv2)⟩) (fun j => j ≤ dw) (fun j => dw - j) 0 (by simp) (by simp -failIfUnchanged (disch := first | omega | (simp <;> omega) | fail) only [go_sem, simprocAttr, nxK_0 one a x ha4, scopes_ints, hSl, hdwn]; try simp) (fun x => hXx _) ?_
          intro j hj
          have hj : j ≤ dw := hj
          obtain ⟨N, hN⟩ : ∃ N, ((q : Int) + 1) :: nxK one a x j = N := ⟨_, rfl⟩
          have hNl5 : N.length = 5 := by rw [← hN]; exact hNl j
          rw [hN]
          simp -failIfUnchanged (disch := first | omega | (simp <;> omega) | fail) only [go_sem, simprocAttr]
          refine wcond_dec (fun hc4 => ?_) (fun hc4 => ?_)
          · have hjl : j < dw := by omega
            have hN1 : N[1 + j]?.getD default = a[j]?.getD default := by
              rw [← hN, Nat.add_comm]
              exact nxK_at one a x j (by omega)
            have hNs : N.set (1 + j) (a[j]?.getD default + (x[j]?.getD default - x[one]?.getD default)) = ((q : Int) + 1) :: nxK one a x (j + 1) := by
              rw [← hN, Nat.add_comm 1 j, List.set_cons_succ]
              congr 1
              exact nxK_set one a x j (by omega)
            have e1 := hxb j (by omega)
            have e2 := hxb one (by omega)
            have e3 := hab j (by omega)
            simp -failIfUnchanged (disch := first | omega | (simp <;> omega) | fail) only [go_sem, simprocAttr, hNl5, hx4, hN1, hNs]
            refine lpy_norm (fun x => hXx _) ⟨j + 1, by omega, by omega, ?_⟩
            simp -failIfUnchanged (disch := first | omega | (simp <;> omega) | fail) only [go_sem, simprocAttr, scopes_ints, hSl]
            try simp
          · have e : j = dw := by omega
            subst e
            have htN : List.take 5 (List.map AV.int N) = List.map AV.int N := List.take_of_length_le (by simp; omega)
            simp -failIfUnchanged (disch := first | omega | (simp <;> omega) | fail) only [go_sem, simprocAttr]
            refine wopsW [10] ⟨[(0, RC b one), (2, .mpr l), (4, .ref 5 [.agg (S.map .int)] 0 0), (10, .ref 5 [.agg (N.map .int)] 0 0), (58, CH b q), (59, .int (chA b q).length), (60, .int i)], [], [], some (.mp l 5 kv2)⟩ (by simp -failIfUnchanged (disch := first | omega | (simp <;> omega) | fail) only [go_sem, simprocAttr, hSl, hNl5]; try simp) (hXx _) ?_
            simp -failIfUnchanged (disch := first | omega | (simp <;> omega) | fail) only [go_sem, simprocAttr, hNl5, htN]
            have hNa : N = ((b.found.length - k' : Nat) : Int) :: addv b one a x := by
              rw [← hN, nxK_addv b one a x hdwn, show b.found.length - k' = q + 1 by omega]
              rfl
            have hcall := ih (addv b one a x) kv2
            rw [← hNa] at hcall
            refine wcalli (hcall _ (by rw [show b.found.length - k' = q + 1 by omega]; exact aBd_add hv hn (by omega) hxm ha) hI2 ?_) ?_
            · simp -failIfUnchanged (disch := first | omega | (simp <;> omega) | fail) only [go_sem, simprocAttr]
              try simp
              exact hX
            · rintro r hp' tk' pd' ⟨rfl, kv3, rfl, hI3, hag3⟩
              have hag4 : ∀ (p : Nat) (a' : List Int), p < q + 1 → kvget kv3 ((p : Int) :: a') = kvget kv ((p : Int) :: a') := fun p a' hp => by
                rw [hag3 p a' (by omega), hag p a' hp]
              simp -failIfUnchanged (disch := first | omega | (simp <;> omega) | fail) only [go_sem, simprocAttr]
              refine wcond_bool (fun hr => ?_) (fun hr => ?_)
              · simp -failIfUnchanged (disch := first | omega | (simp <;> omega) | fail) only [go_sem, simprocAttr]
                have hct : canB b one (k' + 1) a = true := by
                  simp only [canB, List.any_eq_true]
                  exact ⟨x, by rw [hA]; exact hxm, hr⟩
                rw [hct]
                exact ⟨rfl, kv3, rfl, hI3, fun p a' hp => hag4 p a' (by omega)⟩
              · simp -failIfUnchanged (disch := first | omega | (simp <;> omega) | fail) only [go_sem, simprocAttr]
                refine lpy_norm (fun x => hXx _) ⟨(i + 1, kv3), ⟨by dsimp only; omega, hI3, fun j' hj' => ?_, hag4⟩, by dsimp only; omega, ?_⟩
                · dsimp only at hj'
                  rcases Nat.lt_or_ge j' i with h8 | h8
                  · exact hpre2 j' h8
                  · obtain rfl : j' = i := by omega
                    rw [hx]; exact hr
                · simp -failIfUnchanged (disch := first | omega | (simp <;> omega) | fail) only [go_sem, simprocAttr]
                  try simp
        · have e : i = (chA b q).length := by omega
          subst e
          have hcf : canB b one (k' + 1) a = false := by
            simp only [canB, hA, List.any_eq_false]
            intro x hx
            obtain ⟨j, hj, rfl⟩ := List.getElem_of_mem hx
            have := hpre2 j hj
            rw [List.getElem?_eq_getElem hj] at this
            simpa using this
          have h20 : kvget kv2 S = 0 := by rw [← hS, hag q a (by omega), hS]; exact h0
          have hw1 : w64 (kvget kv2 S + 1) = 1 := by rw [h20]; rfl
          simp -failIfUnchanged (disch := first | omega | (simp <;> omega) | fail) only [go_sem, simprocAttr]
          refine wbump (xs := S) mk100 rfl ?_ hSl hSr ?_
          · simp -failIfUnchanged (disch := first | omega | (simp <;> omega) | fail) only [go_sem, simprocAttr, hSl, htk5]
            try simp
          · simp -failIfUnchanged (disch := first | omega | (simp <;> omega) | fail) only [go_sem, simprocAttr, hw1]
            rw [hcf]
            refine ⟨rfl, _, rfl, fun xs => ?_, fun p a' hp => ?_⟩
            · rw [kvget_set]
              by_cases e : xs = S
              · rw [if_pos e]
                exact .inr ⟨rfl, k' + 1, a, hk, by rw [e, ← hS, hq], hcf⟩
              · rw [if_neg e]
                exact hI2 xs
            · rw [kvget_set, if_neg ?_]
              · exact hag p a' (by omega)
              · rw [← hS]
                intro e
                injection e with e1 _
                omega
      · simp -failIfUnchanged (disch := first | omega | (simp <;> omega) | fail) only [go_sem, simprocAttr, h1]
        rw [← hS] at hS2
        injection hS2 with e1 e2
        subst e2
        obtain rfl : k2 = k' + 1 := by omega
        rw [hc2]
        exact ⟨rfl, kv, rfl, hI, fun _ _ _ => rfl⟩

theorem c50 (b : Bk) (hv : BV b) (hn : b.say.length < 4294967296) (one : Nat) (ho : (one : Int) < b.dow) (l : Nat) : ∀ (k : Nat), k ≤ b.found.length → ∀ (a : List Int) (kv : List (List Int × Int)) (X : List FrL), aBd a (b.found.length - k) → mInv b one kv → leX ⟨[], [], [], none⟩ X →
    CSem ⟨Try.prog, X, none, false⟩ 50 [RC b one, .agg ((((b.found.length - k : Nat) : Int) :: a).map .int), .mpr l] [] [] (some (.mp l 5 kv)) (mayQ b one l (b.found.length - k) (canB b one k a) kv) := by
  intro k
  induction k with
  | zero => exact fun hk a kv X ha hI hX => c50w b hv hn one ho l 0 hk (fun k' h => by omega) a kv X ha hI hX
  | succ k ih => exact fun hk a kv X ha hI hX => c50w b hv hn one ho l (k + 1) hk (fun k' h a kv X ha hI hX => by obtain rfl : k = k' := by omega
                                                                                                                  exact ih (by omega) a kv X ha hI hX) a kv X ha hI hX

end Go.Proofs.Ytpangdaijhiohaa.Do


/- leads, Leads, settled. -/
set_option linter.unusedSimpArgs false
set_option linter.unusedVariables false
set_option linter.unnecessarySimpa false
namespace Go.Proofs.Ytpangdaijhiohaa.Do
open Go Go.V

theorem mInv_0 (b : Bk) (one : Nat) : mInv b one [] := fun xs => .inl rfl

theorem c38 (b : Bk) (hv : BV b) (hn : b.say.length < 4294967296) (one : Nat) (ho : (one : Int) < b.dow) : Ctr Try.prog 38 [OB b, .int one] (.int (leadsI b one)) := by
  refine ctr_of_wp hmix Try.func38 m38 rfl ?_
  unfold v38 leadsI
  simp -failIfUnchanged (disch := first | omega | (simp <;> omega) | fail) only [go_sem, simprocAttr]
  refine wcall (c48 b hv hn one ho) ?_
  simp -failIfUnchanged (disch := first | omega | (simp <;> omega) | fail) only [go_sem, simprocAttr]
  refine wcall (c49 b hv hn one ho) ?_
  simp -failIfUnchanged (disch := first | omega | (simp <;> omega) | fail) only [go_sem, simprocAttr]
  refine wcond_bool (fun h => ?_) (fun h => ?_)
  · simp -failIfUnchanged (disch := first | omega | (simp <;> omega) | fail) only [go_sem, simprocAttr, h]
    try simp
  · simp -failIfUnchanged (disch := first | omega | (simp <;> omega) | fail) only [go_sem, simprocAttr]
    refine wmmake mk100 fun l => ?_
    simp -failIfUnchanged (disch := first | omega | (simp <;> omega) | fail) only [go_sem, simprocAttr]
    have hc := c50 b hv hn one ho l b.found.length (Nat.le_refl _) [0, 0, 0, 0] []
    rw [Nat.sub_self] at hc
    refine wcalli (hc _ ⟨rfl, fun o ho => ?_⟩ (mInv_0 b one) ?_) ?_
    · match o with
      | 0 | 1 | 2 | 3 => simp
      | o + 4 => omega
    · simp -failIfUnchanged (disch := first | omega | (simp <;> omega) | fail) only [go_sem, simprocAttr]
      try simp [inScope]
    · rintro r hp' tk' pd' ⟨rfl, kv3, rfl, _, _⟩
      simp -failIfUnchanged (disch := first | omega | (simp <;> omega) | fail) only [go_sem, simprocAttr]
      refine wcond_bool (fun h2 => ?_) (fun h2 => ?_)
      · simp -failIfUnchanged (disch := first | omega | (simp <;> omega) | fail) only [go_sem, simprocAttr, h, h2]
        try simp
      · simp -failIfUnchanged (disch := first | omega | (simp <;> omega) | fail) only [go_sem, simprocAttr, h, h2]
        try simp

def leaR (b : Bk) (d : Int) : AV := let e := askE b (within d 0 (w64 (b.dow - 1))); .tup [.int (if e = 0 then leadsI b d.toNat else 0), .int e]

theorem c15 (b : Bk) (hn : b.say.length < 4294967296) (d : Int) : Ctr Try.prog 15 [DB b, .int d] (leaR b d) := by
  refine ctr_of_wp hmix Try.func15 m15 rfl ?_
  unfold v15 leaR
  simp -failIfUnchanged (disch := first | omega | (simp <;> omega) | fail) only [go_sem, simprocAttr]
  refine wcall (c34 b d) ?_
  simp -failIfUnchanged (disch := first | omega | (simp <;> omega) | fail) only [go_sem, simprocAttr]
  refine wcall (c31 b _ hn) ?_
  unfold opnR
  by_cases he : askE b (within d 0 (w64 (b.dow - 1))) = 0
  · obtain ⟨hv, hi⟩ := ask_0 he
    have hdi := dow_in hv hi
    obtain ⟨n, rfl⟩ : ∃ n : Nat, d = n := ⟨d.toNat, by omega⟩
    rw [he]
    simp -failIfUnchanged (disch := first | omega | (simp <;> omega) | fail) only [go_sem, simprocAttr]
    refine wcall (c38 b hv hn n hdi.2) ?_
    simp -failIfUnchanged (disch := first | omega | (simp <;> omega) | fail) only [go_sem, simprocAttr]
    try simp
  · have hd1 : decide (¬ askE b (within d 0 (w64 (b.dow - 1))) = 0) = true := decide_eq_true he
    simp -failIfUnchanged (disch := first | omega | (simp <;> omega) | fail) only [go_sem, simprocAttr, hd1]
    simp [he]

end Go.Proofs.Ytpangdaijhiohaa.Do


/- Hit, Points, Score of both sides. -/
set_option linter.unusedSimpArgs false
set_option linter.unusedVariables false
set_option linter.unnecessarySimpa false
namespace Go.Proofs.Ytpangdaijhiohaa.Do
open Go Go.V

theorem say_in {b : Bk} {d : Int} (h : within d 0 ((b.say.length : Int) - 1) = true) : 0 ≤ d ∧ d < b.say.length := by
  rw [within_iff] at h
  omega

abbrev sE (b : Bk) (s : Int) : Int := askE b (within s 0 ((b.say.length : Int) - 1))

abbrev dE (b : Bk) (d : Int) : Int := askE b (within d 0 (w64 (b.dow - 1)))

def hitR (b : Bk) (s : Int) : AV := .tup [.int (if sE b s = 0 then hitI (syt b s.toNat) b.found else 0), .int (sE b s)]

def scoR (b : Bk) (d : Int) : AV := .tup [.int (if dE b d = 0 then sco b d b.found else 0), .int (dE b d)]

theorem say_at {b : Bk} (hv : BV b) {n : Nat} (hl : n < b.say.length) : ∃ (xd : Int) (k : Nat) (xl xh : Int), b.say[n]? = some ⟨xd, k, xl, xh⟩ ∧ syt b n = ⟨xd, k, xl, xh⟩ ∧ k < b.found.length := by
  obtain ⟨⟨xd, xp, xl, xh⟩, hx⟩ : ∃ x, b.say[n]? = some x := ⟨b.say[n], by simp [hl]⟩
  have hsx : syt b n = ⟨xd, xp, xl, xh⟩ := by show b.say[n]?.getD default = _; rw [hx]; rfl
  have hsy := hv.sy n hl
  rw [hsx] at hsy
  dsimp only at hsy
  obtain ⟨k, rfl⟩ : ∃ k : Nat, xp = k := ⟨xp.toNat, by omega⟩
  exact ⟨xd, k, xl, xh, hx, hsx, by omega⟩

theorem c11 (b : Bk) (hn : b.say.length < 4294967296) (s : Int) : Ctr Try.prog 11 [DB b, .int s] (hitR b s) := by
  refine ctr_of_wp hmix Try.func11 m11 rfl ?_
  unfold v11 hitR
  simp -failIfUnchanged (disch := first | omega | (simp <;> omega) | fail) only [go_sem, simprocAttr]
  refine wcall (c32 _ _ _) ?_
  simp -failIfUnchanged (disch := first | omega | (simp <;> omega) | fail) only [go_sem, simprocAttr]
  refine wcall (c31 b _ hn) ?_
  unfold opnR
  by_cases he : sE b s = 0
  · obtain ⟨hv, hi⟩ := ask_0 he
    have hsi := say_in hi
    obtain ⟨n, rfl⟩ : ∃ n : Nat, s = n := ⟨s.toNat, by omega⟩
    obtain ⟨xd, k, xl, xh, hx, hsx, hkl⟩ := say_at hv (n := n) (by omega)
    have h84 := c33 b ⟨xd, k, xl, xh⟩ (by simp) (by simp; omega)
    simp only [he, if_true, Int.toNat_natCast, hsx]
    unfold hitI
    simp -failIfUnchanged (disch := first | omega | (simp <;> omega) | fail) only [go_sem, simprocAttr, hx]
    refine wcall h84 ?_
    simp -failIfUnchanged (disch := first | omega | (simp <;> omega) | fail) only [go_sem, simprocAttr]
    refine wcond_dec (fun h => ?_) (fun h => ?_)
    · simp -failIfUnchanged (disch := first | omega | (simp <;> omega) | fail) only [go_sem, simprocAttr, h]
    · simp -failIfUnchanged (disch := first | omega | (simp <;> omega) | fail) only [go_sem, simprocAttr, h, hx]
      refine wcall (c32 _ _ _) ?_
      simp -failIfUnchanged (disch := first | omega | (simp <;> omega) | fail) only [go_sem, simprocAttr]
      refine wcond_bool (fun h2 => ?_) (fun h2 => ?_)
      · simp -failIfUnchanged (disch := first | omega | (simp <;> omega) | fail) only [go_sem, simprocAttr, h2]
        try simp
      · simp -failIfUnchanged (disch := first | omega | (simp <;> omega) | fail) only [go_sem, simprocAttr, h2]
        try simp
  · have hd1 : decide (¬ sE b s = 0) = true := decide_eq_true he
    simp -failIfUnchanged (disch := first | omega | (simp <;> omega) | fail) only [go_sem, simprocAttr, hd1]
    simp [he]

theorem c13 (b : Bk) (hn : b.say.length < 4294967296) (d : Int) : Ctr Try.prog 13 [DB b, .int d] (scoR b d) := by
  refine ctr_of_wp hmix Try.func13 m13 rfl ?_
  unfold v13 scoR
  simp -failIfUnchanged (disch := first | omega | (simp <;> omega) | fail) only [go_sem, simprocAttr]
  refine wcall (c34 b d) ?_
  simp -failIfUnchanged (disch := first | omega | (simp <;> omega) | fail) only [go_sem, simprocAttr]
  refine wcall (c31 b _ hn) ?_
  unfold opnR
  by_cases he : dE b d = 0
  · obtain ⟨hv, hi⟩ := ask_0 he
    have hdi := dow_in hv hi
    have hdw := hv.dw
    obtain ⟨n, rfl⟩ : ∃ n : Nat, d = n := ⟨d.toNat, by omega⟩
    have hnl := nowK_len b b.say.length
    have hna := nowK_at b b.say.length n (by omega)
    simp only [he, if_true]
    simp -failIfUnchanged (disch := first | omega | (simp <;> omega) | fail) only [go_sem, simprocAttr]
    refine wcall (c35 b hv hn) ?_
    simp -failIfUnchanged (disch := first | omega | (simp <;> omega) | fail) only [go_sem, simprocAttr, hnl, hna]
    try simp [hnl, sco]
  · have hd1 : decide (¬ dE b d = 0) = true := decide_eq_true he
    simp -failIfUnchanged (disch := first | omega | (simp <;> omega) | fail) only [go_sem, simprocAttr, hd1]
    simp [he]

end Go.Proofs.Ytpangdaijhiohaa.Do


/- Plain law of sorting numbers by a score, the greatest first. -/
set_option linter.unusedSimpArgs false
set_option linter.unusedVariables false
set_option linter.unnecessarySimpa false
namespace Go.Proofs.Ytpangdaijhiohaa.Do

/-- i comes before j by what is left; the first one where it is the same. -/
def bfr (r : Nat → Int) (i j : Nat) : Prop := r j < r i ∨ (r j = r i ∧ i < j)

instance (r : Nat → Int) (i j : Nat) : Decidable (bfr r i j) := by unfold bfr; exact inferInstance

def swp (d : List Nat) (j : Nat) : List Nat := (d.set j (d[j - 1]?.getD 0)).set (j - 1) (d[j]?.getD 0)

/-- An element goes down to its place. -/
def bub (r : Nat → Int) : Nat → List Nat → List Nat
  | 0, d => d
  | j + 1, d => if r (d[j]?.getD 0) < r (d[j + 1]?.getD 0) then bub r j (swp d (j + 1)) else d

def srt (r : Nat → Int) (d : List Nat) (k : Nat) : List Nat := (List.range k).foldl (fun d i => bub r (i + 1) d) d

abbrev nth (d : List Nat) (i : Nat) : Nat := d[i]?.getD 0

/-- The sorted list: all of 0 .. n - 1. -/
def srtN (r : Nat → Int) (n : Nat) : List Nat := srt r (List.range n) (n - 1)

end Go.Proofs.Ytpangdaijhiohaa.Do


/- SortStableFunc, gone through in its caller's place. -/
set_option linter.unusedSimpArgs false
set_option linter.unusedVariables false
set_option linter.unnecessarySimpa false
namespace Go.Proofs.Ytpangdaijhiohaa.Do
open Go Go.V

/-- Numbers as the machine has them. -/
abbrev nI (d : List Nat) : List Int := d.map fun k => ((k : Nat) : Int)

theorem nI_get (d : List Nat) (i : Nat) : (nI d)[i]?.getD default = ((nth d i : Nat) : Int) := by
  simp only [nth, List.getElem?_map]
  cases d[i]? <;> rfl

theorem nI_len (d : List Nat) : (nI d).length = d.length := by simp

theorem nI_set (d : List Nat) (i x : Nat) : (nI d).set i ((x : Nat) : Int) = nI (d.set i x) := by simp only [nI, List.map_set]

theorem tidy_ints {xs : List Int} {hp : List (Nat × BX)} : (xs.map AV.int).map (tidy hp) = xs.map .int := by
  rw [List.map_map]
  rfl

attribute [go_sem] tidy_ints

end Go.Proofs.Ytpangdaijhiohaa.Do


/- Plain law of dividing by parts, and of who gets one more. -/
set_option linter.unusedSimpArgs false
set_option linter.unusedVariables false
set_option linter.unnecessarySimpa false
namespace Go.Proofs.Ytpangdaijhiohaa.Do

abbrev at0 (l : List Int) (i : Nat) : Int := l[i]?.getD default

theorem at0_set {l : List Int} {i j : Nat} {x : Int} (h : i < l.length) : at0 (l.set i x) j = if i = j then x else at0 l j := by
  unfold at0
  rw [List.getElem?_set]
  by_cases e : i = j
  · rw [if_pos e, if_pos e, if_pos (e ▸ h)]; rfl
  · rw [if_neg e, if_neg e]

def sumI (l : List Int) : Int := l.foldl (· + ·) 0

theorem foldl_add (l : List Int) (a : Int) : l.foldl (· + ·) a = a + sumI l := by
  unfold sumI
  induction l generalizing a with
  | nil => simp
  | cons x r ih =>
    simp only [List.foldl_cons]
    rw [ih (a + x), ih (0 + x)]
    omega

theorem sumI_nil : sumI [] = 0 := rfl

theorem sumI_cons (x : Int) (l : List Int) : sumI (x :: l) = x + sumI l := by
  show (x :: l).foldl (· + ·) 0 = _
  rw [List.foldl_cons, foldl_add]
  omega

theorem sumI_app (l k : List Int) : sumI (l ++ k) = sumI l + sumI k := by
  induction l with
  | nil => simp [sumI_nil]
  | cons x r ih => rw [List.cons_append, sumI_cons, sumI_cons, ih]; omega

def allS (s : List Int) : Int := sumI s

def restI (s : List Int) (f : Int) (i : Nat) : Int := f * at0 s i % allS s

def flrI (s : List Int) (f : Int) (i : Nat) : Int := f * at0 s i / allS s

def flrL (s : List Int) (f : Int) : List Int := (List.range s.length).map (flrI s f)

def leftI (s : List Int) (f : Int) : Int := f - sumI (flrL s f)

theorem sumI_rmap_succ (g : Nat → Int) (n : Nat) : sumI ((List.range (n + 1)).map g) = sumI ((List.range n).map g) + g n := by
  rw [List.range_succ, List.map_append, sumI_app]
  show _ + sumI [g n] = _
  rw [sumI_cons, sumI_nil]
  omega

theorem sumI_rmap_add (g h : Nat → Int) (n : Nat) : sumI ((List.range n).map fun i => g i + h i) = sumI ((List.range n).map g) + sumI ((List.range n).map h) := by
  induction n with
  | zero => rfl
  | succ n ih => rw [sumI_rmap_succ, sumI_rmap_succ, sumI_rmap_succ, ih]; omega

theorem sumI_rmap_mul (g : Nat → Int) (a : Int) (n : Nat) : sumI ((List.range n).map fun i => a * g i) = a * sumI ((List.range n).map g) := by
  induction n with
  | zero => simp [sumI_nil]
  | succ n ih => rw [sumI_rmap_succ, sumI_rmap_succ, ih, Int.mul_add]

theorem sumI_rmap_congr {g h : Nat → Int} {n : Nat} (e : ∀ i, i < n → g i = h i) : sumI ((List.range n).map g) = sumI ((List.range n).map h) := by
  congr 1
  exact List.map_congr_left fun i hi => e i (List.mem_range.1 hi)

theorem list_rmap (l : List Int) : (List.range l.length).map (at0 l) = l := by
  apply List.ext_getElem (by simp)
  intro i h1 h2
  simp [at0, h2]

theorem sumI_rmap_at (l : List Int) : sumI ((List.range l.length).map (at0 l)) = sumI l := by rw [list_rmap]

/-- The parts and what is left of them. -/
theorem parts (s : List Int) (f : Int) (h0 : 0 < allS s) : allS s * leftI s f = sumI ((List.range s.length).map (restI s f)) := by
  have h1 : sumI ((List.range s.length).map fun i => allS s * flrI s f i + restI s f i) = f * allS s := by
    have e : sumI ((List.range s.length).map fun i => allS s * flrI s f i + restI s f i) = sumI ((List.range s.length).map fun i => f * at0 s i) :=
      sumI_rmap_congr fun i _ => Int.mul_ediv_add_emod _ _
    rw [e, sumI_rmap_mul, sumI_rmap_at]
    rfl
  rw [sumI_rmap_add, sumI_rmap_mul] at h1
  unfold leftI flrL
  rw [Int.mul_sub, Int.mul_comm (allS s) f]
  omega

end Go.Proofs.Ytpangdaijhiohaa.Do


/- Order of the program. -/
set_option linter.unusedSimpArgs false
set_option linter.unusedVariables false
set_option linter.unnecessarySimpa false
namespace Go.Proofs.Ytpangdaijhiohaa.Do
open Go Go.V

/-- The score, by a dowser's number. -/
def sc (b : Bk) (i : Nat) : Int := sco b (i : Nat) b.found

def ordL (b : Bk) : List Nat := srtN (sc b) b.dow.toNat

def ordR (b : Bk) : AV := .tup [IS (if checkB b then nI (ordL b) else []), .int (errB b)]

end Go.Proofs.Ytpangdaijhiohaa.Do


/- Pay of the program. -/
set_option linter.unusedSimpArgs false
set_option linter.unusedVariables false
set_option linter.unnecessarySimpa false
namespace Go.Proofs.Ytpangdaijhiohaa.Do
open Go Go.V

end Go.Proofs.Ytpangdaijhiohaa.Do


/- Plain law of guessing. -/
set_option linter.unusedSimpArgs false
set_option linter.unusedVariables false
set_option linter.unnecessarySimpa false
namespace Go.Proofs.Ytpangdaijhiohaa.Do
open Go Go.V

/-- The cases with one saying more. -/
def stepN (D : Nat) (cs : List Nat) (w : Nat) : List Nat := (List.range (cs.length + 1)).map fun k => nth cs k * (D - w) + (if k = 0 then 0 else nth cs (k - 1) * w)

def caseN (D : Nat) (ws : List Nat) : List Nat := ws.foldl (stepN D) [1]

theorem stepN_len (D : Nat) (cs : List Nat) (w : Nat) : (stepN D cs w).length = cs.length + 1 := by simp [stepN]

theorem caseN_snoc (D : Nat) (ws : List Nat) (w : Nat) : caseN D (ws ++ [w]) = stepN D (caseN D ws) w := by simp [caseN, List.foldl_append]

theorem nth_cons {x : Nat} {l : List Nat} {i : Nat} : nth (x :: l) (i + 1) = nth l i := by simp [nth]

theorem nth_le (l : List Nat) (i : Nat) : nth l i ≤ l.sum := by
  induction l generalizing i with
  | nil => simp [nth]
  | cons x r ih =>
    cases i with
    | zero => simp [nth]
    | succ i => rw [nth_cons, List.sum_cons]; have := ih i; omega

/-- Sums by numbers. -/
def smN (f : Nat → Nat) : Nat → Nat
  | 0 => 0
  | n + 1 => smN f n + f n

theorem smN_add (f g : Nat → Nat) : ∀ n, smN (fun i => f i + g i) n = smN f n + smN g n
  | 0 => rfl
  | n + 1 => by simp only [smN]; rw [smN_add f g n]; omega

theorem smN_mul (f : Nat → Nat) (c : Nat) : ∀ n, smN (fun i => f i * c) n = smN f n * c
  | 0 => by simp [smN]
  | n + 1 => by simp only [smN]; rw [smN_mul f c n, Nat.add_mul]

theorem smN_congr {f g : Nat → Nat} : ∀ n, (∀ i, i < n → f i = g i) → smN f n = smN g n
  | 0, _ => rfl
  | n + 1, h => by simp only [smN]; rw [smN_congr n fun i hi => h i (by omega), h n (by omega)]

theorem sum_range (f : Nat → Nat) (n : Nat) : ((List.range n).map f).sum = smN f n := by
  induction n with
  | zero => rfl
  | succ n ih => rw [List.range_succ, List.map_append, List.sum_append, ih]; simp [smN]

theorem smN_head (f : Nat → Nat) : ∀ n, smN f (n + 1) = f 0 + smN (fun i => f (i + 1)) n
  | 0 => by simp [smN]
  | n + 1 => by rw [smN, smN_head f n]; simp only [smN]; omega

theorem smN_nth (l : List Nat) : smN (nth l) l.length = l.sum := by
  induction l with
  | nil => rfl
  | cons x r ih =>
    rw [List.length_cons, smN_head, List.sum_cons]
    show nth (x :: r) 0 + smN (fun i => nth (x :: r) (i + 1)) r.length = _
    rw [smN_congr (g := nth r) _ fun i _ => nth_cons, ih]
    rfl

theorem stepN_sum (D : Nat) (cs : List Nat) (w : Nat) (hw : w ≤ D) : (stepN D cs w).sum = cs.sum * D := by
  unfold stepN
  rw [sum_range, smN_add]
  have e1 : smN (fun k => nth cs k * (D - w)) (cs.length + 1) = cs.sum * (D - w) := by
    rw [smN_mul]
    simp only [smN]
    rw [smN_nth]
    have : nth cs cs.length = 0 := by simp [nth]
    rw [this, Nat.add_zero]
  have e2 : smN (fun k => if k = 0 then 0 else nth cs (k - 1) * w) (cs.length + 1) = cs.sum * w := by
    rw [smN_head, if_pos rfl, Nat.zero_add, smN_congr (g := fun i => nth cs i * w) _ fun i _ => by rw [if_neg (by omega), Nat.add_sub_cancel], smN_mul, smN_nth]
  rw [e1, e2, ← Nat.mul_add]
  congr 1
  omega

theorem caseN_len (D : Nat) (ws : List Nat) : (caseN D ws).length = ws.length + 1 := by
  unfold caseN
  have : ∀ cs : List Nat, (ws.foldl (stepN D) cs).length = cs.length + ws.length := by
    induction ws with
    | nil => simp
    | cons w r ih => intro cs; rw [List.foldl_cons, ih, stepN_len, List.length_cons]; omega
  rw [this]
  simp
  omega

theorem caseN_sum (D : Nat) : ∀ ws : List Nat, (∀ w ∈ ws, w ≤ D) → (caseN D ws).sum = D ^ ws.length := by
  have key : ∀ (ws : List Nat) (cs : List Nat), (∀ w ∈ ws, w ≤ D) → (ws.foldl (stepN D) cs).sum = cs.sum * D ^ ws.length := by
    intro ws
    induction ws with
    | nil => intro cs _; simp
    | cons w r ih =>
      intro cs h
      rw [List.foldl_cons, ih _ fun x hx => h x (by simp [hx]), stepN_sum D cs w (h w (by simp)), List.length_cons, Nat.pow_succ, Nat.mul_assoc, Nat.mul_comm D]
  intro ws h
  unfold caseN
  rw [key ws [1] h]
  simp

/-- How many sayings of a dowser stand ahead of one. -/
def cntK (b : Bk) (d : Int) : Nat → Nat
  | 0 => 0
  | k + 1 => cntK b d k + if (syt b k).d = d then 1 else 0

theorem bef_trans {x y z : Sy} (h1 : bef x y = true) (h2 : bef y z = true) : bef x z = true := by
  simp only [bef, decide_eq_true_eq] at *
  omega

theorem od_lt {b : Bk} (hv : BV b) {i : Nat} : ∀ j, i < j → j < b.say.length → bef (syt b i) (syt b j) = true
  | 0, h, _ => by omega
  | j + 1, h, hj => by
    by_cases e : i = j
    · subst e; exact hv.od i hj
    · exact bef_trans (od_lt hv j (by omega) (by omega)) (hv.od j hj)

theorem cntK_le {b : Bk} (hv : BV b) (d : Int) : ∀ (k : Nat), k ≤ b.say.length → ∀ q : Nat, (∀ i, i < k → (syt b i).d = d → (syt b i).p < (q : Int)) → cntK b d k ≤ q
  | 0, _, q, _ => Nat.zero_le _
  | k + 1, hk, q, h => by
    have hs := hv.sy k (by omega)
    simp only [cntK]
    by_cases e : (syt b k).d = d
    · rw [if_pos e]
      have hq := h k (by omega) e
      have := cntK_le hv d k (by omega) (syt b k).p.toNat fun i hi he => by
        have hb := od_lt hv k hi (by omega)
        simp only [bef, decide_eq_true_eq] at hb
        omega
      omega
    · rw [if_neg e]
      exact cntK_le hv d k (by omega) q fun i hi he => h i (by omega) he

theorem cntK_6 {b : Bk} (hv : BV b) (d : Int) {k : Nat} (hk : k ≤ b.say.length) : cntK b d k ≤ 6 := by
  have := hv.fl
  have := cntK_le hv d k hk b.found.length fun i hi _ => (hv.sy i (by omega)).2.1.2
  omega

/-- The widths of the first k sayings of a dowser that are not open, and how many are right. -/
def isW (b : Bk) (d : Int) (i : Nat) : Prop := (syt b i).d = d ∧ b.found[(syt b i).p.toNat]?.getD default ≠ 0

instance (b : Bk) (d : Int) (i : Nat) : Decidable (isW b d i) := by unfold isW; exact inferInstance

def hitB (b : Bk) (i : Nat) : Bool := within (b.found[(syt b i).p.toNat]?.getD default) (syt b i).lo (syt b i).hi

def widK (b : Bk) (d : Int) : Nat → List Nat
  | 0 => []
  | k + 1 => if isW b d k then widK b d k ++ [(wid (syt b k)).toNat] else widK b d k

def rigK (b : Bk) (d : Int) : Nat → Nat
  | 0 => 0
  | k + 1 => rigK b d k + if isW b d k ∧ hitB b k = true then 1 else 0

theorem widK_len (b : Bk) (d : Int) : ∀ k, (widK b d k).length ≤ cntK b d k
  | 0 => Nat.le_refl _
  | k + 1 => by
    have := widK_len b d k
    simp only [widK, cntK]
    by_cases h : isW b d k
    · rw [if_pos h, if_pos h.1]; simp; omega
    · rw [if_neg h]; omega

theorem rigK_le (b : Bk) (d : Int) : ∀ k, rigK b d k ≤ (widK b d k).length
  | 0 => Nat.le_refl _
  | k + 1 => by
    have := rigK_le b d k
    simp only [widK, rigK]
    by_cases h : isW b d k
    · rw [if_pos h, List.length_append]
      split
      · simp; omega
      · simp; omega
    · rw [if_neg h, if_neg (fun x => h x.1)]; omega

theorem wid_bd {b : Bk} (hv : BV b) {i : Nat} (hi : i < b.say.length) : 1 ≤ wid (syt b i) ∧ wid (syt b i) ≤ b.depth := by
  rw [wid_eq hv hi]
  have := hv.sy i hi
  omega

theorem widK_le {b : Bk} (hv : BV b) (d : Int) : ∀ k, k ≤ b.say.length → ∀ w ∈ widK b d k, 1 ≤ w ∧ w ≤ b.depth.toNat
  | 0, _, w, h => by simp [widK] at h
  | k + 1, hk, w, h => by
    have hw := wid_bd hv (i := k) (by omega)
    simp only [widK] at h
    split at h
    · rcases List.mem_append.1 h with h | h
      · exact widK_le hv d k (by omega) w h
      · simp at h; omega
    · exact widK_le hv d k (by omega) w h

def wids (b : Bk) (d : Int) : List Nat := widK b d b.say.length

def rig (b : Bk) (d : Int) : Nat := rigK b d b.say.length

/-- Fractions. -/
structure Pr where
  a : Int
  b : Int
  deriving Inhabited, DecidableEq

abbrev PR (p : Pr) : AV := .agg [.int p.a, .int p.b]

/-- In lowest terms. -/
def low (n d : Nat) : Pr := ⟨((n / Nat.gcd n d : Nat) : Int), ((d / Nat.gcd n d : Nat) : Int)⟩

theorem gcd_step (a b : Nat) : Nat.gcd b (a % b) = Nat.gcd a b := by
  rw [Nat.gcd_comm a b, Nat.gcd_rec b a, Nat.gcd_comm]

/-- The chance that at least r of some sayings are right. -/
def chcN (D : Nat) (ws : List Nat) (r : Nat) : Pr := low ((caseN D ws).drop r).sum (D ^ ws.length)

theorem pow12 {D n : Nat} (hD : D ≤ 12) (hn : n ≤ 12) : D ^ n ≤ 8916100448256 := by
  calc D ^ n ≤ 12 ^ n := Nat.pow_le_pow_left hD n
    _ ≤ 12 ^ 12 := Nat.pow_le_pow_right (by omega) hn
    _ = 8916100448256 := by decide

theorem drop_sum (l : List Nat) (r : Nat) : (l.drop r).sum ≤ l.sum := by
  have : l.sum = (l.take r).sum + (l.drop r).sum := by rw [← List.sum_append, List.take_append_drop]
  omega

end Go.Proofs.Ytpangdaijhiohaa.Do


/- Chance, Shows, More of the program. -/
set_option linter.unusedSimpArgs false
set_option linter.unusedVariables false
set_option linter.unnecessarySimpa false
namespace Go.Proofs.Ytpangdaijhiohaa.Do
open Go Go.V

/-- A guess. -/
abbrev GU (cs : List Nat) (A : Nat) : AV := .agg [IS (nI cs), .int A]

/-- The cases with one saying more, from the first i. -/
def outG (D : Nat) (cs : List Nat) (w i : Nat) : List Nat := (List.range (cs.length + 1)).map fun k => (if k < i then nth cs k * (D - w) else 0) + (if k = 0 ∨ i < k then 0 else nth cs (k - 1) * w)

theorem outG_len (D : Nat) (cs : List Nat) (w i : Nat) : (outG D cs w i).length = cs.length + 1 := by simp [outG]

theorem outG_0 (D : Nat) (cs : List Nat) (w : Nat) : nI (outG D cs w 0) = List.replicate (cs.length + 1) 0 := by
  apply List.ext_getElem (by simp [outG])
  intro k h1 h2
  simp only [nI, outG, List.getElem_map, List.getElem_range, List.getElem_replicate]
  rw [if_neg (by omega), if_pos (by omega)]
  rfl

theorem outG_n (D : Nat) (cs : List Nat) (w : Nat) : outG D cs w cs.length = stepN D cs w := by
  unfold outG stepN
  apply List.map_congr_left
  intro k hk
  have hk := List.mem_range.1 hk
  congr 1
  · by_cases e : k < cs.length
    · rw [if_pos e]
    · rw [if_neg e]
      have : nth cs k = 0 := by simp [nth, show cs.length ≤ k by omega]
      rw [this, Nat.zero_mul]
  · by_cases e : k = 0
    · rw [if_pos (.inl e), if_pos e]
    · rw [if_neg (by omega), if_neg e]

theorem outG_nth (D : Nat) (cs : List Nat) (w i k : Nat) (h : k ≤ cs.length) : nth (outG D cs w i) k = (if k < i then nth cs k * (D - w) else 0) + (if k = 0 ∨ i < k then 0 else nth cs (k - 1) * w) := by
  simp [nth, outG, show k < cs.length + 1 by omega]

theorem outG_set (D : Nat) (cs : List Nat) (w i : Nat) (h : i < cs.length) : ((outG D cs w i).set i (nth (outG D cs w i) i + nth cs i * (D - w))).set (i + 1) (nth (outG D cs w i) (i + 1) + nth cs i * w) = outG D cs w (i + 1) := by
  apply List.ext_getElem (by simp [outG])
  intro k h1 h2
  rw [outG_len] at h2
  rw [List.getElem_set, List.getElem_set]
  have e : (outG D cs w i)[k]'(by rw [outG_len]; exact h2) = nth (outG D cs w i) k := by simp [nth, outG_len, h2]
  have e2 : (outG D cs w (i + 1))[k]'(by rw [outG_len]; exact h2) = nth (outG D cs w (i + 1)) k := by simp [nth, outG_len, h2]
  rw [e, e2, outG_nth _ _ _ _ _ (by omega), outG_nth _ _ _ _ _ (by omega), outG_nth _ _ _ _ _ (by omega), outG_nth _ _ _ _ _ (by omega)]
  by_cases e1 : i + 1 = k
  · rw [if_pos e1]
    subst e1
    rw [Nat.add_sub_cancel, if_neg (by omega), if_pos (by omega), if_neg (by omega), if_neg (by omega)]
  · rw [if_neg e1]
    by_cases e3 : i = k
    · subst e3
      rw [if_pos rfl]
      repeat' split
      all_goals omega
    · rw [if_neg e3]
      repeat' split
      all_goals omega

theorem ag80 : aggOf Try.prog 80 = some true := by kernel_rfl

theorem sz80 : szOf Try.prog 80 = some 2 := by kernel_rfl

theorem ag49 : aggOf Try.prog 49 = some true := by kernel_rfl

theorem sz49 : szOf Try.prog 49 = some 2 := by kernel_rfl

attribute [go_sem] ag80 sz80 ag49 sz49

theorem c46 (cs : List Nat) (A w D : Nat) (hw : w ≤ D) (hD : D ≤ 1000) (hB : cs.sum * D ≤ 1000000000000000) (hA : A * D ≤ 1000000000000000) (hl : cs.length ≤ 100) : Ctr Try.prog 46 [GU cs A, .int w, .int D] (GU (stepN D cs w) (A * D)) := by
  refine ctr_of_wp hmix Try.func46 m46g rfl ?_
  unfold v46g
  have e1 : (A : Int) * (D : Int) = ((A * D : Nat) : Int) := by rw [Int.natCast_mul]
  simp -failIfUnchanged (disch := first | omega | (simp <;> omega) | fail) only [go_sem, simprocAttr, e1]
  refine wp_loop' Nat (fun i => ⟨[(1, .int w), (2, .int D), (6, .ptr 6 0), (7, .ptr 7 0), (21, IS (nI cs)), (22, .int cs.length), (23, .int i)], [(14, ⟨(nI (outG D cs w i)).map .int, false⟩), (7, ⟨[.bsl 14 0 1 (cs.length + 1) false, .int ((A * D : Nat) : Int)], false⟩), (6, ⟨[.sl 1 [] .full, .int 0], false⟩)], [], none⟩) (fun i => i ≤ cs.length) (fun i => cs.length - i) 0 (by simp) (by simp -failIfUnchanged (disch := first | omega | (simp <;> omega) | fail) only [go_sem, simprocAttr, outG_0, scopes_ints]; try simp) ?_
  intro i hi
  have hi : i ≤ cs.length := hi
  have hgl := outG_len D cs w i
  have hgl2 : (nI (outG D cs w i)).length = cs.length + 1 := by rw [nI_len]; exact hgl
  have hci : (nI cs).length = cs.length := nI_len cs
  simp -failIfUnchanged (disch := first | omega | (simp <;> omega) | fail) only [go_sem, simprocAttr]
  refine wcond_dec (fun hc => ?_) (fun hc => ?_)
  · have hlt : i < cs.length := by omega
    have b0 := nth_le cs i
    have b1 : nth cs i * D ≤ cs.sum * D := Nat.mul_le_mul_right _ b0
    have b2 : nth cs i * (D - w) ≤ nth cs i * D := Nat.mul_le_mul_left _ (by omega)
    have b3 : nth cs i * w ≤ nth cs i * D := Nat.mul_le_mul_left _ hw
    have v1 : nth (outG D cs w i) i ≤ 1000000000000000 := by
      rw [outG_nth _ _ _ _ _ (by omega), if_neg (by omega)]
      by_cases e : i = 0
      · rw [if_pos (.inl e)]; omega
      · rw [if_neg (by omega)]
        have c0 := nth_le cs (i - 1)
        have c1 : nth cs (i - 1) * D ≤ cs.sum * D := Nat.mul_le_mul_right _ c0
        have c2 : nth cs (i - 1) * w ≤ nth cs (i - 1) * D := Nat.mul_le_mul_left _ hw
        omega
    have v2 : nth (outG D cs w i) (i + 1) = 0 := by
      rw [outG_nth _ _ _ _ _ (by omega), if_neg (by omega), if_pos (by omega)]
    have hset := outG_set D cs w i hlt
    have s1 : ((D : Int) - (w : Int)) = ((D - w : Nat) : Int) := by omega
    have s2 : ((nth cs i : Nat) : Int) * ((D - w : Nat) : Int) = ((nth cs i * (D - w) : Nat) : Int) := by rw [Int.natCast_mul]
    have s3 : ((nth cs i : Nat) : Int) * (w : Int) = ((nth cs i * w : Nat) : Int) := by rw [Int.natCast_mul]
    have s4 : ((nth (outG D cs w i) i : Nat) : Int) + ((nth cs i * (D - w) : Nat) : Int) = ((nth (outG D cs w i) i + nth cs i * (D - w) : Nat) : Int) := by omega
    have s5 : ((nth (outG D cs w i) (i + 1) : Nat) : Int) + ((nth cs i * w : Nat) : Int) = ((nth (outG D cs w i) (i + 1) + nth cs i * w : Nat) : Int) := by omega
    have hset2 : ((nI (outG D cs w i)).set i ((nth (outG D cs w i) i + nth cs i * (D - w) : Nat) : Int)).set (i + 1) ((nth (outG D cs w i) (i + 1) + nth cs i * w : Nat) : Int) = nI (outG D cs w (i + 1)) := by rw [nI_set, nI_set, hset]
    have g1 : (nI cs)[i]?.getD default = ((nth cs i : Nat) : Int) := nI_get cs i
    have g2 : (nI (outG D cs w i))[i]?.getD default = ((nth (outG D cs w i) i : Nat) : Int) := nI_get _ _
    have g3 : ((nI (outG D cs w i)).set i ((nth (outG D cs w i) i + nth cs i * (D - w) : Nat) : Int))[i + 1]?.getD default = ((nth (outG D cs w i) (i + 1) : Nat) : Int) := by rw [List.getElem?_set_ne (by omega)]; exact nI_get _ _
    obtain ⟨L2, hL2⟩ : ∃ L2, nI (outG D cs w (i + 1)) = L2 := ⟨_, rfl⟩
    rw [hL2] at hset2
    generalize nI (outG D cs w i) = L at *
    generalize nth (outG D cs w i) i = x1 at *
    generalize nth (outG D cs w i) (i + 1) = x2 at *
    generalize nI cs = C at *
    have w1 : w64 ((nth cs i * (D - w) : Nat) : Int) = ((nth cs i * (D - w) : Nat) : Int) := w64_id (by omega)
    have w2 : w64 ((nth cs i * w : Nat) : Int) = ((nth cs i * w : Nat) : Int) := w64_id (by omega)
    generalize nth cs i * (D - w) = y1 at *
    generalize nth cs i * w = y2 at *
    simp -failIfUnchanged (disch := first | omega | (simp <;> omega) | fail) only [go_sem, simprocAttr, g1, g2, g3, s1, s2, s3, s4, s5, w1, w2, hgl2, List.length_set, hset2]
    refine ⟨i + 1, by dsimp only; omega, by dsimp only; omega, ?_⟩
    dsimp only
    rw [hL2]
    simp -failIfUnchanged (disch := first | omega | (simp <;> omega) | fail) only [go_sem, simprocAttr, scopes_ints]
    try simp
  · have e : i = cs.length := by omega
    subst e
    rw [outG_n] at hgl2 ⊢
    simp -failIfUnchanged (disch := first | omega | (simp <;> omega) | fail) only [go_sem, simprocAttr, chunks_ints, hgl2, Nat.le_refl]
    try simp

theorem take_sum_le (l : List Nat) (k : Nat) : (l.take k).sum ≤ l.sum := by
  have : l.sum = (l.take k).sum + (l.drop k).sum := by rw [← List.sum_append, List.take_append_drop]
  omega

theorem take_sum_succ (l : List Nat) (k : Nat) (h : k < l.length) : (l.take (k + 1)).sum = (l.take k).sum + nth l k := by
  rw [List.take_add_one, List.sum_append, List.getElem?_eq_getElem h]
  simp [nth, h]

theorem c37 (cs : List Nat) (A r : Nat) (hr : r ≤ cs.length) (hA : 0 < A) (hA2 : A ≤ 1000000000000000) (hB : cs.sum ≤ 1000000000000000) (hl : cs.length ≤ 100) : Ctr Try.prog 37 [GU cs A, .int r] (PR (low (cs.drop r).sum A)) := by
  refine ctr_of_wp hmix Try.func37 m37 rfl ?_
  unfold v37
  have hci : (nI cs).length = cs.length := nI_len cs
  have hdr : List.drop r (List.map AV.int (nI cs)) = (nI (cs.drop r)).map .int := by simp only [nI, List.map_drop]
  have hds := drop_sum cs r
  have hdl : (cs.drop r).length ≤ 100 := by rw [List.length_drop]; omega
  simp -failIfUnchanged (disch := first | omega | (simp <;> omega) | fail) only [go_sem, simprocAttr, hci, hdr]
  generalize cs.drop r = ds at *
  refine wp_loop' Nat (fun i => ⟨[(2, .ptr 2 0), (4, .ptr 4 0), (5, .int ((ds.take i).sum : Nat)), (13, IS (nI ds)), (14, .int ds.length), (15, .int i)], [(4, ⟨[.int 0, .int 0], false⟩), (2, ⟨[IS (nI cs), .int A], false⟩)], [], none⟩) (fun i => i ≤ ds.length) (fun i => ds.length - i) 0 (by simp) (by simp -failIfUnchanged (disch := first | omega | (simp <;> omega) | fail) only [go_sem, simprocAttr, nI_len]; try simp) ?_
  intro i hi
  have hi : i ≤ ds.length := hi
  have hdi : (nI ds).length = ds.length := nI_len ds
  simp -failIfUnchanged (disch := first | omega | (simp <;> omega) | fail) only [go_sem, simprocAttr]
  refine wcond_dec (fun hc => ?_) (fun hc => ?_)
  · have hlt : i < ds.length := by omega
    have g1 : (nI ds)[i]?.getD default = ((nth ds i : Nat) : Int) := nI_get ds i
    have t1 := take_sum_le ds i
    have t2 := take_sum_succ ds i hlt
    have t3 := take_sum_le ds (i + 1)
    simp -failIfUnchanged (disch := first | omega | (simp <;> omega) | fail) only [go_sem, simprocAttr, g1]
    refine ⟨i + 1, by dsimp only; omega, by dsimp only; omega, ?_⟩
    dsimp only
    rw [t2]
    simp -failIfUnchanged (disch := first | omega | (simp <;> omega) | fail) only [go_sem, simprocAttr]
    try simp
  · have e : i = ds.length := by omega
    subst e
    rw [List.take_length]
    generalize hn : ds.sum = num at *
    have hw1 : (num : Int) ≤ 1000000000000000 := by omega
    simp -failIfUnchanged (disch := first | omega | (simp <;> omega) | fail) only [go_sem, simprocAttr]
    refine wp_loop' (Nat × Nat) (fun x => ⟨[(2, .ptr 2 0), (4, .ptr 4 0), (5, .int num), (8, .int x.1), (9, .int x.2)], [(4, ⟨[.int 0, .int 0], false⟩), (2, ⟨[IS (nI cs), .int A], false⟩)], [], none⟩)
      (fun x => Nat.gcd x.1 x.2 = Nat.gcd num A) (fun x => x.2) (num, A) rfl (by simp -failIfUnchanged (disch := first | omega | (simp <;> omega) | fail) only [go_sem, simprocAttr]; try simp) ?_
    rintro ⟨a, c⟩ hg
    dsimp only at hg ⊢
    simp -failIfUnchanged (disch := first | omega | (simp <;> omega) | fail) only [go_sem, simprocAttr]
    refine wcond_dec (fun h => ?_) (fun h => ?_)
    · have h0 : 0 < c := by omega
      have hlt : a % c < c := Nat.mod_lt _ h0
      simp -failIfUnchanged (disch := first | omega | (simp <;> omega) | fail) only [go_sem, simprocAttr]
      refine ⟨(c, a % c), by dsimp only; rw [gcd_step, hg], by dsimp only; omega, ?_⟩
      simp -failIfUnchanged (disch := first | omega | (simp <;> omega) | fail) only [go_sem, simprocAttr]
      try simp
    · have h0 : c = 0 := by omega
      subst h0
      rw [Nat.gcd_zero_right] at hg
      have hpos : 0 < a := by
        rw [hg]
        exact Nat.gcd_pos_of_pos_right _ hA
      have e0 : ∀ q : Nat, q ≤ 1000000000000000 → w64 (q : Int) = q := fun q h => w64_id (by omega)
      have e1 := e0 (num / a) (Nat.le_trans (Nat.div_le_self num a) (by omega))
      have e2 := e0 (A / a) (Nat.le_trans (Nat.div_le_self A a) hA2)
      simp -failIfUnchanged (disch := first | omega | (simp <;> omega) | fail) only [go_sem, simprocAttr, e1, e2]
      simp [low, hg]

end Go.Proofs.Ytpangdaijhiohaa.Do


/- guessed, Chance, Shows, More. -/
set_option linter.unusedSimpArgs false
set_option linter.unusedVariables false
set_option linter.unnecessarySimpa false
namespace Go.Proofs.Ytpangdaijhiohaa.Do
open Go Go.V

abbrev dN (b : Bk) : Nat := b.depth.toNat

theorem dN_bd {b : Bk} (hv : BV b) : 1 ≤ dN b ∧ dN b ≤ 12 ∧ ((dN b : Nat) : Int) = b.depth := by have := hv.dp; unfold dN; omega

theorem case_bd {D : Nat} {ws : List Nat} (hD : D ≤ 12) (hw : ∀ w ∈ ws, w ≤ D) (hl : ws.length ≤ 12) : (caseN D ws).sum = D ^ ws.length ∧ D ^ ws.length ≤ 8916100448256 := ⟨caseN_sum D ws hw, pow12 hD hl⟩

theorem c36 (b : Bk) (hv : BV b) (hn : b.say.length < 4294967296) (d : Int) : Ctr Try.prog 36 [OB b, .int d] (.tup [GU (caseN (dN b) (wids b d)) (dN b ^ (wids b d).length), .int (rig b d)]) := by
  refine ctr_of_wp hmix Try.func36 m36 rfl ?_
  unfold v36
  obtain ⟨hD1, hD2, hD3⟩ := dN_bd hv
  simp -failIfUnchanged (disch := first | omega | (simp <;> omega) | fail) only [go_sem, simprocAttr]
  refine wp_loop' Nat (fun i => ⟨[(0, OB b), (1, .int d), (4, .ptr 4 0), (5, .int (rigK b d i)), (14, SL b.say), (15, .int b.say.length), (16, .int i)], [(4, ⟨[IS (nI (caseN (dN b) (widK b d i))), .int ((dN b ^ (widK b d i).length : Nat) : Int)], false⟩)], [], none⟩) (fun i => i ≤ b.say.length) (fun i => b.say.length - i) 0 (by simp) (by simp -failIfUnchanged (disch := first | omega | (simp <;> omega) | fail) only [go_sem, simprocAttr]; simp [widK, rigK, caseN]) ?_
  intro i hi
  have hi : i ≤ b.say.length := hi
  simp -failIfUnchanged (disch := first | omega | (simp <;> omega) | fail) only [go_sem, simprocAttr]
  refine wcond_dec (fun hc => ?_) (fun hc => ?_)
  · have hlt : i < b.say.length := by omega
    obtain ⟨xd, k, xl, xh, hx, hsx, hkl⟩ := say_at hv (n := i) hlt
    have h84 := c33 b ⟨xd, k, xl, xh⟩ (by simp) (by simp; omega)
    have hwb := wid_bd hv hlt
    have h94 := c47 ⟨xd, k, xl, xh⟩
    rw [hsx] at hwb
    have hW : isW b d i = (xd = d ∧ b.found[k]?.getD default ≠ 0) := by unfold isW; rw [hsx]; simp
    have hH : hitB b i = within (b.found[k]?.getD default) xl xh := by unfold hitB; rw [hsx]; simp
    have hcw : ∀ w ∈ widK b d i, w ≤ dN b := fun w hw => (widK_le hv d i (by omega) w hw).2
    have hcl : (widK b d i).length ≤ 6 := Nat.le_trans (widK_len b d i) (cntK_6 hv d (by omega))
    obtain ⟨hcs, hcb⟩ := case_bd hD2 hcw (by omega)
    have hrl := rigK_le b d i
    have hskip : ¬ isW b d i → widK b d (i + 1) = widK b d i ∧ rigK b d (i + 1) = rigK b d i := fun h => by
      simp only [widK, rigK, if_neg h, if_neg (fun x : isW b d i ∧ hitB b i = true => h x.1)]
      exact ⟨trivial, rfl⟩
    simp -failIfUnchanged (disch := first | omega | (simp <;> omega) | fail) only [go_sem, simprocAttr, hx]
    refine WGd_bool (fun h1 => ?_) (fun h1 => ?_)
    · have h1' : xd = d := by simpa using h1
      simp -failIfUnchanged (disch := first | omega | (simp <;> omega) | fail) only [go_sem, simprocAttr, h1]
      refine wcall h84 ?_
      simp -failIfUnchanged (disch := first | omega | (simp <;> omega) | fail) only [go_sem, simprocAttr, h1]
      refine wcond_dec (fun h2 => ?_) (fun h2 => ?_)
      · simp -failIfUnchanged (disch := first | omega | (simp <;> omega) | fail) only [go_sem, simprocAttr]
        refine ⟨i + 1, by dsimp only; omega, by dsimp only; omega, ?_⟩
        obtain ⟨e1, e2⟩ := hskip (by rw [hW]; exact fun x => x.2 h2)
        dsimp only
        rw [e1, e2]
        simp -failIfUnchanged (disch := first | omega | (simp <;> omega) | fail) only [go_sem, simprocAttr]
        try simp
      · have hyes : isW b d i := by rw [hW]; exact ⟨h1', h2⟩
        obtain ⟨w, hwN⟩ : ∃ w : Nat, wid ⟨xd, k, xl, xh⟩ = w := ⟨(wid ⟨xd, k, xl, xh⟩).toNat, by omega⟩
        have hwk : widK b d (i + 1) = widK b d i ++ [w] := by
          simp only [widK, if_pos hyes]
          rw [hsx, hwN]
          rfl
        rw [hwN] at hwb h94
        have hpw : dN b ^ (widK b d i).length * dN b = dN b ^ (widK b d (i + 1)).length := by rw [hwk, List.length_append, ← Nat.pow_succ]; rfl
        have hcb2 : dN b ^ (widK b d (i + 1)).length ≤ 8916100448256 := pow12 hD2 (by rw [hwk, List.length_append]; simp; omega)
        have h82 := c46 (caseN (dN b) (widK b d i)) (dN b ^ (widK b d i).length) w (dN b) (by omega) (by omega) (by rw [hcs, hpw]; omega) (by rw [hpw]; omega) (by rw [caseN_len]; omega)
        rw [hpw, ← caseN_snoc, ← hwk, hD3] at h82
        simp -failIfUnchanged (disch := first | omega | (simp <;> omega) | fail) only [go_sem, simprocAttr, h1, hx]
        refine wcall h94 ?_
        simp -failIfUnchanged (disch := first | omega | (simp <;> omega) | fail) only [go_sem, simprocAttr]
        refine wcall h82 ?_
        simp -failIfUnchanged (disch := first | omega | (simp <;> omega) | fail) only [go_sem, simprocAttr]
        refine wcall (c32 _ _ _) ?_
        rw [← hH]
        simp -failIfUnchanged (disch := first | omega | (simp <;> omega) | fail) only [go_sem, simprocAttr]
        refine wcond_bool (fun h3 => ?_) (fun h3 => ?_)
        · have er : rigK b d (i + 1) = rigK b d i + 1 := by simp only [rigK, if_pos (And.intro hyes h3)]
          simp -failIfUnchanged (disch := first | omega | (simp <;> omega) | fail) only [go_sem, simprocAttr]
          refine ⟨i + 1, by dsimp only; omega, by dsimp only; omega, ?_⟩
          dsimp only
          rw [er]
          simp -failIfUnchanged (disch := first | omega | (simp <;> omega) | fail) only [go_sem, simprocAttr]
          try simp
        · have er : rigK b d (i + 1) = rigK b d i := by simp only [rigK]; rw [if_neg (fun x => by rw [h3] at x; exact Bool.false_ne_true x.2)]; rfl
          simp -failIfUnchanged (disch := first | omega | (simp <;> omega) | fail) only [go_sem, simprocAttr]
          refine ⟨i + 1, by dsimp only; omega, by dsimp only; omega, ?_⟩
          dsimp only
          rw [er]
          simp -failIfUnchanged (disch := first | omega | (simp <;> omega) | fail) only [go_sem, simprocAttr]
          try simp
    · have h1' : ¬ xd = d := by simpa using h1
      simp -failIfUnchanged (disch := first | omega | (simp <;> omega) | fail) only [go_sem, simprocAttr, h1]
      refine ⟨i + 1, by dsimp only; omega, by dsimp only; omega, ?_⟩
      obtain ⟨e1, e2⟩ := hskip (by rw [hW]; exact fun x => h1' x.1)
      dsimp only
      rw [e1, e2]
      simp -failIfUnchanged (disch := first | omega | (simp <;> omega) | fail) only [go_sem, simprocAttr]
      try simp
  · have e : i = b.say.length := by omega
    subst e
    simp -failIfUnchanged (disch := first | omega | (simp <;> omega) | fail) only [go_sem, simprocAttr]
    simp [wids, rig]

theorem wids_le {b : Bk} (hv : BV b) (d : Int) : ∀ w ∈ wids b d, w ≤ dN b := fun w hw => (widK_le hv d _ (Nat.le_refl _) w hw).2

theorem wids_6 {b : Bk} (hv : BV b) (d : Int) : (wids b d).length ≤ 6 := Nat.le_trans (widK_len b d _) (cntK_6 hv d (Nat.le_refl _))

theorem c37b {D : Nat} {ws : List Nat} (hD : 1 ≤ D) (hD2 : D ≤ 12) (hw : ∀ w ∈ ws, w ≤ D) (hl : ws.length ≤ 12) {r : Nat} (hr : r ≤ ws.length) : Ctr Try.prog 37 [GU (caseN D ws) (D ^ ws.length), .int r] (PR (chcN D ws r)) := by
  obtain ⟨h1, h2⟩ := case_bd hD2 hw hl
  exact c37 (caseN D ws) (D ^ ws.length) r (by rw [caseN_len]; omega) (Nat.pow_pos (by omega)) (by omega) (by omega) (by rw [caseN_len]; omega)

def chaR (b : Bk) (d : Int) : AV := .tup [PR (if dE b d = 0 then chcN (dN b) (wids b d) (rig b d) else ⟨0, 0⟩), .int (dE b d)]

theorem c14 (b : Bk) (hn : b.say.length < 4294967296) (d : Int) : Ctr Try.prog 14 [DB b, .int d] (chaR b d) := by
  refine ctr_of_wp hmix Try.func14 m14 rfl ?_
  unfold v14 chaR
  simp -failIfUnchanged (disch := first | omega | (simp <;> omega) | fail) only [go_sem, simprocAttr]
  refine wcall (c34 b d) ?_
  simp -failIfUnchanged (disch := first | omega | (simp <;> omega) | fail) only [go_sem, simprocAttr]
  refine wcall (c31 b _ hn) ?_
  unfold opnR
  by_cases he : dE b d = 0
  · obtain ⟨hv, hi⟩ := ask_0 he
    obtain ⟨hD1, hD2, hD3⟩ := dN_bd hv
    simp only [he, if_true]
    have h72 := c37b hD1 hD2 (wids_le hv d) (by have := wids_6 hv d; omega) (rigK_le b d b.say.length)
    simp -failIfUnchanged (disch := first | omega | (simp <;> omega) | fail) only [go_sem, simprocAttr]
    refine wcall (c36 b hv hn d) ?_
    simp -failIfUnchanged (disch := first | omega | (simp <;> omega) | fail) only [go_sem, simprocAttr]
    refine wcall h72 ?_
    simp -failIfUnchanged (disch := first | omega | (simp <;> omega) | fail) only [go_sem, simprocAttr]
    try simp
    exact ⟨rfl, rfl⟩
  · have hd1 : decide (¬ dE b d = 0) = true := decide_eq_true he
    simp -failIfUnchanged (disch := first | omega | (simp <;> omega) | fail) only [go_sem, simprocAttr, hd1]
    simp [he]

/-- The first number of which something is so. -/
def fst (p : Nat → Bool) (n : Nat) : Option Nat := (List.range n).find? p

end Go.Proofs.Ytpangdaijhiohaa.Do


/- The example; works. -/
set_option linter.unusedSimpArgs false
set_option linter.unusedVariables false
set_option linter.unnecessarySimpa false
namespace Go.Proofs.Ytpangdaijhiohaa.Do
open Go Go.V

theorem c24 (a b : List Int) (ha : a.length < 4294967296) : Ctr Try.prog 24 [IS a, IS b] (.bool (decide (a = b))) := by
  refine ctr_of_wp hmix Try.func24 m24 rfl ?_
  unfold v24
  simp -failIfUnchanged (disch := first | omega | (simp <;> omega) | fail) only [go_sem, simprocAttr]
  refine wcond_dec (fun h => ?_) (fun h => ?_)
  · simp -failIfUnchanged (disch := first | omega | (simp <;> omega) | fail) only [go_sem, simprocAttr]
    have : a ≠ b := fun e => by subst e; simp at h
    simp [this]
  · simp -failIfUnchanged (disch := first | omega | (simp <;> omega) | fail) only [go_sem, simprocAttr]
    refine wp_loop' Nat (fun i => ⟨[(0, IS a), (1, IS b), (5, .int i)], [], [], none⟩) (fun i => i ≤ a.length ∧ a.take i = b.take i) (fun i => a.length - i) 0 (by simp) (by simp -failIfUnchanged (disch := first | omega | (simp <;> omega) | fail) only [go_sem, simprocAttr]; try rfl) ?_
    rintro i ⟨hi, hpre⟩
    simp -failIfUnchanged (disch := first | omega | (simp <;> omega) | fail) only [go_sem, simprocAttr]
    have hl : a.length = b.length := by omega
    refine wcond_dec (fun h => ?_) (fun h => ?_)
    · simp -failIfUnchanged (disch := first | omega | (simp <;> omega) | fail) only [go_sem, simprocAttr]
      have e1 : a[i]? = some a[i] := List.getElem?_eq_getElem (by omega)
      have e2 : b[i]? = some b[i] := List.getElem?_eq_getElem (by omega)
      rw [e1, e2]
      simp -failIfUnchanged (disch := first | omega | (simp <;> omega) | fail) only [go_sem, simprocAttr]
      refine wcond_dec (fun h => ?_) (fun h => ?_)
      · simp -failIfUnchanged (disch := first | omega | (simp <;> omega) | fail) only [go_sem, simprocAttr]
        have : a ≠ b := fun e => by subst e; simp at h
        simp [this]
      · simp -failIfUnchanged (disch := first | omega | (simp <;> omega) | fail) only [go_sem, simprocAttr]
        refine ⟨i + 1, ⟨by omega, ?_⟩, by dsimp only; omega, ?_⟩
        · rw [List.take_add_one, List.take_add_one, hpre, e1, e2]
          simp only [Decidable.not_not] at h
          rw [h]
        · simp -failIfUnchanged (disch := first | omega | (simp <;> omega) | fail) only [go_sem, simprocAttr]
          simp
    · simp -failIfUnchanged (disch := first | omega | (simp <;> omega) | fail) only [go_sem, simprocAttr]
      have e : i = a.length := by omega
      have : a = b := by
        rw [e, List.take_length, hl, List.take_length] at hpre
        exact hpre
      simp [this]

/-- The book of the examples. -/
def bkE : Bk := ⟨6, [3, 0, 5], 2, [⟨0, 0, 2, 3⟩, ⟨0, 1, 1, 1⟩, ⟨0, 2, 1, 2⟩, ⟨1, 0, 3, 3⟩, ⟨1, 1, 1, 6⟩, ⟨1, 2, 4, 6⟩], 10⟩

theorem ag41 : aggOf Try.prog 41 = some true := by kernel_rfl

theorem sz41 : szOf Try.prog 41 = some 5 := by kernel_rfl

attribute [go_sem] ag41 sz41

theorem c23 : Ctr Try.prog 23 [] (DB bkE) := by
  refine ctr_of_wp hmix Try.func23 m23 rfl ?_
  unfold v23 bkE
  simp -failIfUnchanged (disch := first | omega | (simp <;> omega) | fail) only [go_sem, simprocAttr]
  try simp

theorem x1 : scoR bkE 0 = .tup [.int 2, .int 0] := by kernel_rfl

theorem x2 : ordR bkE = .tup [IS [1, 0], .int 0] := by kernel_rfl

theorem x3 : btwR bkE 0 = .tup [.agg [.int 1, .int 7], .int 0] := by kernel_rfl

end Go.Proofs.Ytpangdaijhiohaa.Do


/- Huge, Copy, Same; DowsersHit. -/
set_option linter.unusedSimpArgs false
set_option linter.unusedVariables false
set_option linter.unnecessarySimpa false
namespace Go.Proofs.Ytpangdaijhiohaa.Do
open Go Go.V

def hugeB (b : Bk) : Bool := decide ((40 : Int) < b.found.length) || decide ((40 : Int) < b.say.length)

theorem wbin_sne4 {a b c e : Int} {d : Option Nat} {next : AS → Prop} {σ : AS} : WBin (.sne 4) (.agg [.int a, .int b, .int c, .int e]) (.agg [.int a, .int b, .int c, .int e]) d next σ = next (put d (.bool false) σ) := by
  have : sameCells [.int a, .int b, .int c, .int e] [.int a, .int b, .int c, .int e] = true := by simp [sameCells]
  simp [WBin, BK.cond, BK.val, this, AV.isInt]

attribute [go_sem] wbin_sne4

end Go.Proofs.Ytpangdaijhiohaa.Do


/- Plain law: ranks; picking the greatest. -/
set_option linter.unusedSimpArgs false
set_option linter.unusedVariables false
set_option linter.unnecessarySimpa false
namespace Go.Proofs.Ytpangdaijhiohaa.Do
open Go Go.V

end Go.Proofs.Ytpangdaijhiohaa.Do


/- Order and Pay of the document; DowsersScore. -/
set_option linter.unusedSimpArgs false
set_option linter.unusedVariables false
set_option linter.unnecessarySimpa false
namespace Go.Proofs.Ytpangdaijhiohaa.Do
open Go Go.V

end Go.Proofs.Ytpangdaijhiohaa.Do


/- DowsersPurse. -/
set_option linter.unusedSimpArgs false
set_option linter.unusedVariables false
set_option linter.unnecessarySimpa false
namespace Go.Proofs.Ytpangdaijhiohaa.Do
open Go Go.V

end Go.Proofs.Ytpangdaijhiohaa.Do


/- Dug; DowsersGuess. -/
set_option linter.unusedSimpArgs false
set_option linter.unusedVariables false
set_option linter.unnecessarySimpa false
namespace Go.Proofs.Ytpangdaijhiohaa.Do
open Go Go.V

theorem flat_ints {l : List Int} : flat (l.map AV.int) = l.map .int := by
  induction l with
  | nil => rfl
  | cons x r ih => simp only [List.map_cons, flat, ih]; rfl

attribute [go_sem] flat_ints

end Go.Proofs.Ytpangdaijhiohaa.Do


/- DowsersLess. -/
set_option linter.unusedSimpArgs false
set_option linter.unusedVariables false
set_option linter.unnecessarySimpa false
namespace Go.Proofs.Ytpangdaijhiohaa.Do
open Go Go.V

end Go.Proofs.Ytpangdaijhiohaa.Do


/- One more saying. -/
set_option linter.unusedSimpArgs false
set_option linter.unusedVariables false
set_option linter.unnecessarySimpa false
namespace Go.Proofs.Ytpangdaijhiohaa.Do
open Go Go.V

end Go.Proofs.Ytpangdaijhiohaa.Do


/- Plain law of chances with one more saying. -/
set_option linter.unusedSimpArgs false
set_option linter.unusedVariables false
set_option linter.unnecessarySimpa false
namespace Go.Proofs.Ytpangdaijhiohaa.Do
open Go Go.V

def tS (D : Nat) (ws : List Nat) (r : Nat) : Nat := ((caseN D ws).drop r).sum

theorem drop_sum_succ (l : List Nat) (r : Nat) : (l.drop r).sum = nth l r + (l.drop (r + 1)).sum := by
  rcases Nat.lt_or_ge r l.length with h | h
  · rw [List.drop_eq_getElem_cons h, List.sum_cons]
    simp [nth, h]
  · rw [List.drop_of_length_le h, List.drop_of_length_le (by omega)]
    simp [nth, h]

/-- Fractions in lowest terms compare as they did. -/
theorem low_cross {S A S' A' : Nat} (hA : 0 < A) (hA' : 0 < A') (h : S' * A ≤ S * A') : (S' / Nat.gcd S' A') * (A / Nat.gcd S A) ≤ (S / Nat.gcd S A) * (A' / Nat.gcd S' A') := by
  have g1 : 0 < Nat.gcd S A := Nat.gcd_pos_of_pos_right _ hA
  have g2 : 0 < Nat.gcd S' A' := Nat.gcd_pos_of_pos_right _ hA'
  obtain ⟨s, hs⟩ := Nat.gcd_dvd_left S A
  obtain ⟨a, ha⟩ := Nat.gcd_dvd_right S A
  obtain ⟨s', hs'⟩ := Nat.gcd_dvd_left S' A'
  obtain ⟨a', ha'⟩ := Nat.gcd_dvd_right S' A'
  have e1 : S / Nat.gcd S A = s := Nat.div_eq_of_eq_mul_right g1 hs
  have e2 : A / Nat.gcd S A = a := Nat.div_eq_of_eq_mul_right g1 ha
  have e3 : S' / Nat.gcd S' A' = s' := Nat.div_eq_of_eq_mul_right g2 hs'
  have e4 : A' / Nat.gcd S' A' = a' := Nat.div_eq_of_eq_mul_right g2 ha'
  rw [e1, e2, e3, e4]
  generalize Nat.gcd S A = g at *
  generalize Nat.gcd S' A' = g' at *
  have h1 : (g' * g) * (s' * a) ≤ (g' * g) * (s * a') := by
    have x1 : (g' * g) * (s' * a) = S' * A := by rw [hs', ha]; simp only [Nat.mul_assoc, Nat.mul_left_comm]
    have x2 : (g' * g) * (s * a') = S * A' := by rw [hs, ha']; simp only [Nat.mul_assoc, Nat.mul_left_comm]
    rw [x1, x2]; exact h
  exact Nat.le_of_mul_le_mul_left h1 (Nat.mul_pos g2 g1)

def prodN : List Nat → Nat
  | [] => 1
  | w :: r => w * prodN r

theorem prodN_snoc (l : List Nat) (w : Nat) : prodN (l ++ [w]) = prodN l * w := by
  induction l with
  | nil => simp [prodN]
  | cons x r ih => simp only [List.cons_append, prodN, ih, Nat.mul_assoc]

theorem case_last (D : Nat) (ws : List Nat) : nth (caseN D ws) ws.length = prodN ws := by
  have key : ∀ (ws cs : List Nat), 0 < cs.length → nth (ws.foldl (stepN D) cs) (cs.length - 1 + ws.length) = nth cs (cs.length - 1) * prodN ws := by
    intro ws
    induction ws with
    | nil => intro cs _; simp [prodN]
    | cons w r ih =>
      intro cs hc
      rw [List.foldl_cons, List.length_cons]
      have h := ih (stepN D cs w) (by rw [stepN_len]; omega)
      rw [stepN_len] at h
      rw [show cs.length - 1 + (r.length + 1) = cs.length + 1 - 1 + r.length by omega, h, Nat.add_sub_cancel]
      have : nth (stepN D cs w) cs.length = nth cs (cs.length - 1) * w := by
        simp only [nth, stepN, List.getElem?_map]
        rw [List.getElem?_range (by omega)]
        simp only [Option.map_some, Option.getD_some]
        rw [if_neg (by omega)]
        simp
      rw [this, prodN, Nat.mul_assoc]
  have := key ws [1] (by simp)
  simpa [caseN, nth] using this

theorem tS_last (D : Nat) (ws : List Nat) : tS D ws ws.length = prodN ws := by
  unfold tS
  rw [drop_sum_succ, case_last, List.drop_of_length_le (by rw [caseN_len]; omega)]
  simp

end Go.Proofs.Ytpangdaijhiohaa.Do


/- DowsersMany. -/
set_option linter.unusedSimpArgs false
set_option linter.unusedVariables false
set_option linter.unnecessarySimpa false
namespace Go.Proofs.Ytpangdaijhiohaa.Do
open Go Go.V

theorem c16 (n d : Nat) (hd : 0 < d) (hn : n ≤ 1000000000000000) (hd2 : d ≤ 1000000000000000) : Ctr Try.prog 16 [.int n, .int d] (PR (low n d)) := by
  refine ctr_of_wp hmix Try.func16 m16 rfl ?_
  unfold v16
  have hmx : max (n : Int) (0 - (n : Int)) = n := by omega
  simp -failIfUnchanged (disch := first | omega | (simp <;> omega) | fail) only [go_sem, simprocAttr, hmx]
  refine wp_loop' (Nat × Nat) (fun x => ⟨[(0, .int n), (1, .int d), (4, .ptr 4 0), (5, .int x.1), (6, .int x.2)], [(4, ⟨[.int 0, .int 0], false⟩)], [], none⟩)
    (fun x => Nat.gcd x.1 x.2 = Nat.gcd n d) (fun x => x.2) (n, d) rfl (by simp -failIfUnchanged (disch := first | omega | (simp <;> omega) | fail) only [go_sem, simprocAttr]; try simp) ?_
  rintro ⟨a, c⟩ hg
  dsimp only at hg ⊢
  simp -failIfUnchanged (disch := first | omega | (simp <;> omega) | fail) only [go_sem, simprocAttr]
  refine wcond_dec (fun h => ?_) (fun h => ?_)
  · have h0 : 0 < c := by omega
    have hlt : a % c < c := Nat.mod_lt _ h0
    simp -failIfUnchanged (disch := first | omega | (simp <;> omega) | fail) only [go_sem, simprocAttr]
    refine ⟨(c, a % c), by dsimp only; rw [gcd_step, hg], by dsimp only; omega, ?_⟩
    simp -failIfUnchanged (disch := first | omega | (simp <;> omega) | fail) only [go_sem, simprocAttr]
    try simp
  · have h0 : c = 0 := by omega
    subst h0
    rw [Nat.gcd_zero_right] at hg
    have hpos : 0 < a := by
      rw [hg]
      exact Nat.gcd_pos_of_pos_right _ hd
    have e0 : ∀ q : Nat, q ≤ 1000000000000000 → w64 (q : Int) = q := fun q h => w64_id (by omega)
    have e1 := e0 (n / a) (Nat.le_trans (Nat.div_le_self n a) hn)
    have e2 := e0 (d / a) (Nat.le_trans (Nat.div_le_self d a) hd2)
    simp -failIfUnchanged (disch := first | omega | (simp <;> omega) | fail) only [go_sem, simprocAttr, e1, e2]
    simp [low, hg]

theorem pow6 {D n : Nat} (hD : D ≤ 12) (hn : n ≤ 6) : D ^ n ≤ 2985984 := by
  calc D ^ n ≤ 12 ^ n := Nat.pow_le_pow_left hD n
    _ ≤ 12 ^ 6 := Nat.pow_le_pow_right (by omega) hn
    _ = 2985984 := by decide

end Go.Proofs.Ytpangdaijhiohaa.Do


/- Plain law of the levels' bounds: what they say holds in each truth, and more words leave less. -/
set_option linter.unusedSimpArgs false
set_option linter.unusedVariables false
set_option linter.unnecessarySimpa false
namespace Go.Proofs.Ytpangdaijhiohaa.Lv

structure Sn where
  w : Int
  lo : Int
  hi : Int
  deriving Inhabited, DecidableEq
structure Sl where
  a : Int
  b : Int
  lo : Int
  hi : Int
  deriving Inhabited, DecidableEq
structure Tw where
  wells : Int
  sn : List Sn
  sl : List Sl

abbrev at0 (l : List Int) (i : Nat) : Int := l[i]?.getD default
def bat (b : List Int) (i k : Nat) : Int := at0 b (i * 7 + k)

theorem at0_set {l : List Int} {i j : Nat} {x : Int} (h : i < l.length) : at0 (l.set i x) j = if i = j then x else at0 l j := by
  unfold at0
  rw [List.getElem?_set]
  by_cases e : i = j
  · rw [if_pos e, if_pos e, if_pos (e ▸ h)]; rfl
  · rw [if_neg e, if_neg e]

/-- A bound is taken if it is less. -/
def lv (b : List Int) (i k : Nat) (m : Int) : List Int := b.set (i * 7 + k) (min (bat b i k) m)
theorem lv_len (b : List Int) (i k : Nat) (m : Int) : (lv b i k m).length = b.length := by simp [lv]
theorem lv_at {b : List Int} (hb : b.length = 49) {i k : Nat} (hi : i < 7) (hk : k < 7) (m : Int) {i' k' : Nat} (hk' : k' < 7) :
    bat (lv b i k m) i' k' = if i = i' ∧ k = k' then min (bat b i k) m else bat b i' k' := by
  unfold lv bat
  rw [at0_set (by omega)]
  by_cases e : i * 7 + k = i' * 7 + k'
  · rw [if_pos e, if_pos (by omega)]
  · rw [if_neg e, if_neg (by omega)]

def free : Int := 1048576
/-- What is said of each two wells (7 of them, the last is the ground). -/
structure Bo (x : Nat → Int) (b : List Int) : Prop where
  len : b.length = 49
  up : ∀ i k, i < 7 → k < 7 → bat b i k ≤ free
  so : ∀ i k, i < 7 → k < 7 → x k - x i ≤ bat b i k
def Le (b c : List Int) : Prop := ∀ i k, i < 7 → k < 7 → bat b i k ≤ bat c i k

theorem bo_lv {x : Nat → Int} {b : List Int} (h : Bo x b) {i k : Nat} (hi : i < 7) (hk : k < 7) {m : Int} (hm : x k - x i ≤ m) : Bo x (lv b i k m) := by
  refine ⟨by rw [lv_len]; exact h.len, fun i' k' h1 h2 => ?_, fun i' k' h1 h2 => ?_⟩
  · rw [lv_at h.len hi hk m h2]
    have := h.up i' k' h1 h2
    split
    · rename_i e; rw [e.1, e.2]; omega
    · exact this
  · rw [lv_at h.len hi hk m h2]
    have := h.so i' k' h1 h2
    split
    · rename_i e; rw [e.1, e.2] at hm ⊢; omega
    · exact this
theorem le_lv {b c : List Int} (hb : b.length = 49) (hc : c.length = 49) (h : Le b c) {i k : Nat} (hi : i < 7) (hk : k < 7) {m n : Int} (hm : m ≤ n) : Le (lv b i k m) (lv c i k n) := by
  intro i' k' h1 h2
  have := h i' k' h1 h2
  have := h i k hi hk
  rw [lv_at hb hi hk m h2, lv_at hc hi hk n h2]
  split <;> omega
theorem le_lv1 {b : List Int} (hb : b.length = 49) {i k : Nat} (hi : i < 7) (hk : k < 7) (m : Int) : Le (lv b i k m) b := by
  intro i' k' h1 h2
  rw [lv_at hb hi hk m h2]
  split
  · rename_i e; rw [e.1, e.2]; omega
  · exact Int.le_refl _
theorem Le.trans {b c d : List Int} (h : Le b c) (k : Le c d) : Le b d := fun i j h1 h2 => Int.le_trans (h i j h1 h2) (k i j h1 h2)
theorem Le.refl (b : List Int) : Le b b := fun _ _ _ _ => Int.le_refl _

/-- The bounds that the levels leave by themselves. -/
def rock0 : List Int := (List.range 49).map fun n => if n / 7 = n % 7 then 0 else free
def rockL : Nat → List Int
  | 0 => rock0
  | w + 1 => lv (lv (rockL w) 6 w 99) w 6 0
def sndL (b : List Int) (s : Sn) : List Int := lv (lv b 6 s.w.toNat s.hi) s.w.toNat 6 (0 - s.lo)
def slpL (b : List Int) (s : Sl) : List Int := lv (lv b s.a.toNat s.b.toNat s.hi) s.b.toNat s.a.toNat (0 - s.lo)
def jst (k i j : Nat) (b : List Int) : List Int := if bat b i k < free ∧ bat b k j < free then lv b i j (bat b i k + bat b k j) else b
def jL (k i : Nat) (b : List Int) : Nat → List Int
  | 0 => b
  | n + 1 => jst k i n (jL k i b n)
def iL (k : Nat) (b : List Int) : Nat → List Int
  | 0 => b
  | n + 1 => jL k n (iL k b n) 7
def kL (b : List Int) : Nat → List Int
  | 0 => b
  | n + 1 => iL n (kL b n) 7
def sdL (b : List Int) (l : List Sn) (n : Nat) : List Int := (l.take n).foldl sndL b
def spL (b : List Int) (l : List Sl) (n : Nat) : List Int := (l.take n).foldl slpL b
def word (t : Tw) : List Int := spL (sdL (rockL t.wells.toNat) t.sn t.sn.length) t.sl t.sl.length
def said (t : Tw) : List Int := kL (word t) 7

theorem rock0_len : rock0.length = 49 := rfl
theorem rock0_bat : ∀ i k, i < 7 → k < 7 → bat rock0 i k = if i = k then 0 else free := by
  intro i k hi hk
  have : ∀ i : Fin 7, ∀ k : Fin 7, bat rock0 i k = if i.val = k.val then 0 else free := by decide
  exact this ⟨i, hi⟩ ⟨k, hk⟩

/-- A truth. -/
structure Tr (t : Tw) (l : List Int) : Prop where
  len : (l.length : Int) = t.wells
  lo : ∀ i, i < l.length → 0 ≤ at0 l i ∧ at0 l i ≤ 99
  sn : ∀ s ∈ t.sn, s.lo ≤ at0 l s.w.toNat ∧ at0 l s.w.toNat ≤ s.hi
  sl : ∀ s ∈ t.sl, s.lo ≤ at0 l s.b.toNat - at0 l s.a.toNat ∧ at0 l s.b.toNat - at0 l s.a.toNat ≤ s.hi
/-- A valid town. -/
structure Vt (t : Tw) : Prop where
  w : 0 ≤ t.wells ∧ t.wells ≤ 6
  n1 : t.sn.length ≤ 8
  n2 : t.sl.length ≤ 8
  sn : ∀ s ∈ t.sn, (0 ≤ s.w ∧ s.w < t.wells) ∧ 0 ≤ s.lo ∧ s.lo ≤ s.hi ∧ s.hi ≤ 99
  sl : ∀ s ∈ t.sl, (0 ≤ s.a ∧ s.a < t.wells) ∧ (0 ≤ s.b ∧ s.b < t.wells) ∧ s.a ≠ s.b ∧ -99 ≤ s.lo ∧ s.lo ≤ s.hi ∧ s.hi ≤ 99

/-- The levels of a truth, the ground's 0. -/
def lev (l : List Int) (i : Nat) : Int := at0 l i
theorem lev_bd {t : Tw} {l : List Int} (h : Tr t l) (i : Nat) : 0 ≤ lev l i ∧ lev l i ≤ 99 := by
  rcases Nat.lt_or_ge i l.length with hi | hi
  · exact h.lo i hi
  · unfold lev at0
    rw [List.getElem?_eq_none hi]
    decide
theorem lev_out {l : List Int} {i : Nat} (hi : l.length ≤ i) : lev l i = 0 := by
  unfold lev at0
  rw [List.getElem?_eq_none hi]
  rfl

theorem bo_rock {t : Tw} {l : List Int} (hv : Vt t) (h : Tr t l) : ∀ w, w ≤ t.wells.toNat → Bo (lev l) (rockL w) := by
  intro w
  have hl := h.len
  have hw := hv.w
  have h6 : lev l 6 = 0 := lev_out (by omega)
  induction w with
  | zero =>
    intro _
    refine ⟨rock0_len, fun i k hi hk => ?_, fun i k hi hk => ?_⟩
    · show bat rock0 i k ≤ _
      rw [rock0_bat i k hi hk]
      split
      · decide
      · exact Int.le_refl _
    · show _ ≤ bat rock0 i k
      rw [rock0_bat i k hi hk]
      have h1 := lev_bd h i
      have h2 := lev_bd h k
      split
      · rename_i e; subst e; omega
      · unfold free; omega
  | succ w ih =>
    intro hw'
    have h1 := lev_bd h w
    exact bo_lv (bo_lv (ih (by omega)) (by decide) (by omega) (by omega)) (by omega) (by decide) (by omega)
theorem bo_snd {t : Tw} {l : List Int} (hv : Vt t) (h : Tr t l) {b : List Int} (hb : Bo (lev l) b) {s : Sn} (hs : s ∈ t.sn) : Bo (lev l) (sndL b s) := by
  have hl := h.len
  have hw := hv.w
  have h6 : lev l 6 = 0 := lev_out (by omega)
  have h1 := hv.sn s hs
  have h2 := h.sn s hs
  have e : lev l s.w.toNat = at0 l s.w.toNat := rfl
  exact bo_lv (bo_lv hb (by decide) (by omega) (by omega)) (by omega) (by decide) (by omega)
theorem bo_slp {t : Tw} {l : List Int} (hv : Vt t) (h : Tr t l) {b : List Int} (hb : Bo (lev l) b) {s : Sl} (hs : s ∈ t.sl) : Bo (lev l) (slpL b s) := by
  have hw := hv.w
  have h1 := hv.sl s hs
  have h2 := h.sl s hs
  have e : lev l s.a.toNat = at0 l s.a.toNat := rfl
  have e : lev l s.b.toNat = at0 l s.b.toNat := rfl
  exact bo_lv (bo_lv hb (by omega) (by omega) (by omega)) (by omega) (by omega) (by omega)
theorem bo_jst {x : Nat → Int} {b : List Int} (hb : Bo x b) {k i j : Nat} (hk : k < 7) (hi : i < 7) (hj : j < 7) : Bo x (jst k i j b) := by
  unfold jst
  split
  · have h1 := hb.so i k hi hk
    have h2 := hb.so k j hk hj
    exact bo_lv hb hi hj (by omega)
  · exact hb
theorem bo_jL {x : Nat → Int} {b : List Int} (hb : Bo x b) {k i : Nat} (hk : k < 7) (hi : i < 7) : ∀ n, n ≤ 7 → Bo x (jL k i b n) := by
  intro n
  induction n with
  | zero => intro _; exact hb
  | succ n ih => intro hn; exact bo_jst (ih (by omega)) hk hi (by omega)
theorem bo_iL {x : Nat → Int} {b : List Int} (hb : Bo x b) {k : Nat} (hk : k < 7) : ∀ n, n ≤ 7 → Bo x (iL k b n) := by
  intro n
  induction n with
  | zero => intro _; exact hb
  | succ n ih => intro hn; exact bo_jL (ih (by omega)) hk (by omega) 7 (by decide)
theorem bo_kL {x : Nat → Int} {b : List Int} (hb : Bo x b) : ∀ n, n ≤ 7 → Bo x (kL b n) := by
  intro n
  induction n with
  | zero => intro _; exact hb
  | succ n ih => intro hn; exact bo_iL (ih (by omega)) (by omega) 7 (by decide)
theorem mem_at {α : Type} [Inhabited α] {l : List α} {n : Nat} (h : n < l.length) : l[n]?.getD default ∈ l := by
  rw [List.getElem?_eq_getElem h]
  exact List.getElem_mem _
theorem foldl_take {α β : Type} [Inhabited α] (f : β → α → β) (b : β) (l : List α) {n : Nat} (h : n < l.length) : (l.take (n + 1)).foldl f b = f ((l.take n).foldl f b) (l[n]?.getD default) := by
  rw [List.take_add_one, List.foldl_append, List.getElem?_eq_getElem h]
  rfl
theorem sdL_succ (b : List Int) (l : List Sn) {n : Nat} (h : n < l.length) : sdL b l (n + 1) = sndL (sdL b l n) (l[n]?.getD default) := foldl_take sndL b l h
theorem spL_succ (b : List Int) (l : List Sl) {n : Nat} (h : n < l.length) : spL b l (n + 1) = slpL (spL b l n) (l[n]?.getD default) := foldl_take slpL b l h
theorem bo_sdL {t : Tw} {l : List Int} (hv : Vt t) (h : Tr t l) {b : List Int} (hb : Bo (lev l) b) : ∀ n, n ≤ t.sn.length → Bo (lev l) (sdL b t.sn n) := by
  intro n
  induction n with
  | zero => intro _; exact hb
  | succ n ih => intro hn; rw [sdL_succ _ _ hn]; exact bo_snd hv h (ih (by omega)) (mem_at hn)
theorem bo_spL {t : Tw} {l : List Int} (hv : Vt t) (h : Tr t l) {b : List Int} (hb : Bo (lev l) b) : ∀ n, n ≤ t.sl.length → Bo (lev l) (spL b t.sl n) := by
  intro n
  induction n with
  | zero => intro _; exact hb
  | succ n ih => intro hn; rw [spL_succ _ _ hn]; exact bo_slp hv h (ih (by omega)) (mem_at hn)
theorem bo_word {t : Tw} {l : List Int} (hv : Vt t) (h : Tr t l) : Bo (lev l) (word t) :=
  bo_spL hv h (bo_sdL hv h (bo_rock hv h _ (Nat.le_refl _)) _ (Nat.le_refl _)) _ (Nat.le_refl _)
theorem bo_said {t : Tw} {l : List Int} (hv : Vt t) (h : Tr t l) : Bo (lev l) (said t) := bo_kL (bo_word hv h) 7 (by decide)

/-- More words leave less. -/
theorem le_jst {x : Nat → Int} {b c : List Int} (hb : Bo x b) (hc : Bo x c) (h : Le b c) {k i j : Nat} (hk : k < 7) (hi : i < 7) (hj : j < 7) : Le (jst k i j b) (jst k i j c) := by
  have h1 := h i k hi hk
  have h2 := h k j hk hj
  unfold jst
  by_cases e : bat c i k < free ∧ bat c k j < free
  · rw [if_pos e, if_pos (by omega)]
    exact le_lv hb.len hc.len h hi hj (by omega)
  · rw [if_neg e]
    split
    · exact (le_lv1 hb.len hi hj _).trans h
    · exact h
theorem le_jL {x : Nat → Int} {b c : List Int} (hb : Bo x b) (hc : Bo x c) (h : Le b c) {k i : Nat} (hk : k < 7) (hi : i < 7) : ∀ n, n ≤ 7 → Le (jL k i b n) (jL k i c n) := by
  intro n
  induction n with
  | zero => intro _; exact h
  | succ n ih => intro hn; exact le_jst (bo_jL hb hk hi n (by omega)) (bo_jL hc hk hi n (by omega)) (ih (by omega)) hk hi (by omega)
theorem le_iL {x : Nat → Int} {b c : List Int} (hb : Bo x b) (hc : Bo x c) (h : Le b c) {k : Nat} (hk : k < 7) : ∀ n, n ≤ 7 → Le (iL k b n) (iL k c n) := by
  intro n
  induction n with
  | zero => intro _; exact h
  | succ n ih => intro hn; exact le_jL (bo_iL hb hk n (by omega)) (bo_iL hc hk n (by omega)) (ih (by omega)) hk (by omega) 7 (by decide)
theorem le_kL {x : Nat → Int} {b c : List Int} (hb : Bo x b) (hc : Bo x c) (h : Le b c) : ∀ n, n ≤ 7 → Le (kL b n) (kL c n) := by
  intro n
  induction n with
  | zero => intro _; exact h
  | succ n ih => intro hn; exact le_iL (bo_kL hb n (by omega)) (bo_kL hc n (by omega)) (ih (by omega)) (by omega) 7 (by decide)
theorem le_jL1 {x : Nat → Int} {b : List Int} (hb : Bo x b) {k i : Nat} (hk : k < 7) (hi : i < 7) : ∀ n, n ≤ 7 → Le (jL k i b n) b := by
  intro n
  induction n with
  | zero => intro _; exact .refl _
  | succ n ih =>
    intro hn
    refine Le.trans ?_ (ih (by omega))
    show Le (jst k i n _) _
    unfold jst
    split
    · exact le_lv1 (bo_jL hb hk hi n (by omega)).len hi (by omega) _
    · exact .refl _
theorem le_iL1 {x : Nat → Int} {b : List Int} (hb : Bo x b) {k : Nat} (hk : k < 7) : ∀ n, n ≤ 7 → Le (iL k b n) b := by
  intro n
  induction n with
  | zero => intro _; exact .refl _
  | succ n ih => intro hn; exact (le_jL1 (bo_iL hb hk n (by omega)) hk (by omega) 7 (by decide)).trans (ih (by omega))
theorem le_kL1 {x : Nat → Int} {b : List Int} (hb : Bo x b) : ∀ n, n ≤ 7 → Le (kL b n) b := by
  intro n
  induction n with
  | zero => intro _; exact .refl _
  | succ n ih => intro hn; exact (le_iL1 (bo_kL hb n (by omega)) (by omega) 7 (by decide)).trans (ih (by omega))

/-- A well's level. -/
def loI (t : Tw) (w : Nat) : Int := 0 - bat (said t) w 6
def hiI (t : Tw) (w : Nat) : Int := bat (said t) 6 w

theorem rock_le {t : Tw} {l : List Int} (hv : Vt t) (h : Tr t l) {w : Nat} : ∀ n, n ≤ t.wells.toNat → w < n → bat (rockL n) 6 w ≤ 99 ∧ bat (rockL n) w 6 ≤ 0 := by
  intro n
  have hw := hv.w
  induction n with
  | zero => intro _ h; omega
  | succ n ih =>
    intro hn hwn
    have hb := bo_rock hv h n (by omega)
    have hb2 := lv_len (rockL n) 6 n 99
    have hb3 : (lv (rockL n) 6 n 99).length = 49 := by rw [hb2]; exact hb.len
    show bat (lv (lv (rockL n) 6 n 99) n 6 0) 6 w ≤ 99 ∧ bat (lv (lv (rockL n) 6 n 99) n 6 0) w 6 ≤ 0
    have e1 := lv_at hb3 (show n < 7 by omega) (show 6 < 7 by decide) 0 (i' := 6) (show w < 7 by omega)
    have e2 := lv_at hb3 (show n < 7 by omega) (show 6 < 7 by decide) 0 (i' := w) (show 6 < 7 by decide)
    have e3 := lv_at hb.len (show 6 < 7 by decide) (show n < 7 by omega) 99 (i' := 6) (show w < 7 by omega)
    have e4 := lv_at hb.len (show 6 < 7 by decide) (show n < 7 by omega) 99 (i' := w) (show 6 < 7 by decide)
    have e5 := lv_at hb.len (show 6 < 7 by decide) (show n < 7 by omega) 99 (i' := n) (show 6 < 7 by decide)
    rw [e1, e2, e3, e4, e5]
    by_cases e : n = w
    · subst e
      constructor
      · rw [if_neg (by omega), if_pos (by omega)]; omega
      · rw [if_pos (by omega), if_neg (by omega)]; omega
    · have := ih (by omega) (by omega)
      constructor
      · rw [if_neg (by omega), if_neg (by omega)]; exact this.1
      · rw [if_neg (by omega), if_neg (by omega)]; exact this.2
theorem le_snd {t : Tw} {l : List Int} (hv : Vt t) (h : Tr t l) {b : List Int} (hb : Bo (lev l) b) {s : Sn} (hs : s ∈ t.sn) : Le (sndL b s) b := by
  have hw := hv.w
  have h1 := hv.sn s hs
  exact (le_lv1 (by rw [lv_len]; exact hb.len) (by omega) (by decide) _).trans (le_lv1 hb.len (by decide) (by omega) _)
theorem le_slp {t : Tw} {l : List Int} (hv : Vt t) (h : Tr t l) {b : List Int} (hb : Bo (lev l) b) {s : Sl} (hs : s ∈ t.sl) : Le (slpL b s) b := by
  have hw := hv.w
  have h1 := hv.sl s hs
  exact (le_lv1 (by rw [lv_len]; exact hb.len) (by omega) (by omega) _).trans (le_lv1 hb.len (by omega) (by omega) _)
theorem le_sdL {t : Tw} {l : List Int} (hv : Vt t) (h : Tr t l) {b : List Int} (hb : Bo (lev l) b) : ∀ n, n ≤ t.sn.length → Le (sdL b t.sn n) b := by
  intro n
  induction n with
  | zero => intro _; exact .refl _
  | succ n ih => intro hn; rw [sdL_succ _ _ hn]; exact (le_snd hv h (bo_sdL hv h hb n (by omega)) (mem_at hn)).trans (ih (by omega))
theorem le_spL {t : Tw} {l : List Int} (hv : Vt t) (h : Tr t l) {b : List Int} (hb : Bo (lev l) b) : ∀ n, n ≤ t.sl.length → Le (spL b t.sl n) b := by
  intro n
  induction n with
  | zero => intro _; exact .refl _
  | succ n ih => intro hn; rw [spL_succ _ _ hn]; exact (le_slp hv h (bo_spL hv h hb n (by omega)) (mem_at hn)).trans (ih (by omega))

/-- In each truth the level is within; and each level that is left can be. -/
theorem level_in {t : Tw} {l : List Int} (hv : Vt t) (h : Tr t l) {w : Nat} (hw : w < l.length) : 0 ≤ loI t w ∧ loI t w ≤ at0 l w ∧ at0 l w ≤ hiI t w ∧ hiI t w ≤ 99 := by
  have hl := h.len
  have hw6 := hv.w
  have hb := bo_said hv h
  have h6 : lev l 6 = 0 := lev_out (by omega)
  have h1 := hb.so 6 w (by decide) (by omega)
  have h2 := hb.so w 6 (by omega) (by decide)
  have e : lev l w = at0 l w := rfl
  have hle : Le (said t) (rockL t.wells.toNat) := (le_kL1 (bo_word hv h) 7 (by decide)).trans ((le_spL hv h (bo_sdL hv h (bo_rock hv h _ (Nat.le_refl _)) _ (Nat.le_refl _)) _ (Nat.le_refl _)).trans (le_sdL hv h (bo_rock hv h _ (Nat.le_refl _)) _ (Nat.le_refl _)))
  have h3 := rock_le hv h (w := w) t.wells.toNat (Nat.le_refl _) (by omega)
  have h4 := hle 6 w (by decide) (by omega)
  have h5 := hle w 6 (by omega) (by decide)
  unfold loI hiI
  omega

/-- One sounding more: no level is wider. -/
theorem level_more {t : Tw} {s : Sn} {l : List Int} (hv : Vt t) (hv' : Vt ⟨t.wells, t.sn ++ [s], t.sl⟩) (h : Tr ⟨t.wells, t.sn ++ [s], t.sl⟩ l) (ht : Tr t l) {w : Nat} (hw : w < l.length) :
    loI t w ≤ loI ⟨t.wells, t.sn ++ [s], t.sl⟩ w ∧ hiI ⟨t.wells, t.sn ++ [s], t.sl⟩ w ≤ hiI t w := by
  have hl := ht.len
  have hw6 := hv.w
  have r := bo_rock hv ht _ (Nat.le_refl t.wells.toNat)
  have b1 := bo_sdL hv ht r _ (Nat.le_refl _)
  have b2 := bo_sdL hv' h r _ (Nat.le_refl _)
  have hs1 : sdL (rockL t.wells.toNat) (t.sn ++ [s]) (t.sn ++ [s]).length = sndL (sdL (rockL t.wells.toNat) t.sn t.sn.length) s := by
    unfold sdL
    rw [List.take_of_length_le (Nat.le_refl _), List.take_of_length_le (Nat.le_refl _), List.foldl_append]
    rfl
  have l1 : Le (sdL (rockL t.wells.toNat) (t.sn ++ [s]) (t.sn ++ [s]).length) (sdL (rockL t.wells.toNat) t.sn t.sn.length) := by
    rw [hs1]
    exact le_snd hv' h b1 (by simp)
  have l2 : ∀ n, n ≤ t.sl.length → Le (spL (sdL (rockL t.wells.toNat) (t.sn ++ [s]) (t.sn ++ [s]).length) t.sl n) (spL (sdL (rockL t.wells.toNat) t.sn t.sn.length) t.sl n) := by
    intro n
    induction n with
    | zero => intro _; exact l1
    | succ n ih =>
      intro hn
      have c1 := bo_spL hv ht b1 n (by omega)
      have c2 := bo_spL hv' h b2 n (show n ≤ t.sl.length by omega)
      have hm := mem_at hn
      have q := hv.sl _ hm
      rw [spL_succ _ _ hn, spL_succ _ _ hn]
      exact le_lv (by rw [lv_len]; exact c2.len) (by rw [lv_len]; exact c1.len) (le_lv c2.len c1.len (ih (by omega)) (by omega) (by omega) (Int.le_refl _)) (by omega) (by omega) (Int.le_refl _)
  have l3 : Le (said ⟨t.wells, t.sn ++ [s], t.sl⟩) (said t) := le_kL (bo_word hv' h) (bo_word hv ht) (l2 _ (Nat.le_refl _)) 7 (by decide)
  have h1 := l3 6 w (by decide) (by omega)
  have h2 := l3 w 6 (by omega) (by decide)
  unfold loI hiI
  omega

attribute [irreducible] loI hiI said

end Go.Proofs.Ytpangdaijhiohaa.Lv


/- Towns of levels as values; the bounds that all words leave. -/
set_option linter.unusedSimpArgs false
set_option linter.unusedVariables false
set_option linter.unnecessarySimpa false
namespace Go.Proofs.Ytpangdaijhiohaa.Lv
open Go Go.V

abbrev SN (s : Sn) : AV := .agg [.int s.w, .int s.lo, .int s.hi]
abbrev SLP (s : Sl) : AV := .agg [.int s.a, .int s.b, .int s.lo, .int s.hi]
abbrev TWN (t : Tw) : AV := .agg [.int t.wells, .sl 3 (t.sn.map SN) .sh, .sl 4 (t.sl.map SLP) .sh]
abbrev BO (b : List Int) : AV := .ref 49 [.agg (b.map .int)] 0 0

theorem setAt_ints {xs : List Int} {i : Nat} {x : Int} (h : i < xs.length) : setAt (xs.map .int) i [.int x] = (xs.set i x).map .int := by
  induction xs generalizing i with
  | nil => simp at h
  | cons w l ih =>
    cases i with
    | zero => rfl
    | succ i =>
      simp only [List.map_cons, setAt, List.set_cons_succ]
      rw [ih (by simpa using h)]
theorem map_ints {xs : List Int} {hp : List (Nat × BX)} : (xs.map AV.int).map (strip hp) = xs.map .int := by
  rw [List.map_map]
  rfl
theorem bids_ints {xs : List Int} : bids (xs.map AV.int) = [] := by
  induction xs with
  | nil => rfl
  | cons w l ih => simp only [List.map_cons, bids, AV.bid, AV.bid1, ih, List.append_nil]
theorem scopes_ints {τ : AS} {xs : List Int} : scopes τ (xs.map AV.int) = True := by
  induction xs with
  | nil => rfl
  | cons w l ih => simp only [List.map_cons, scopes, inScope, ih, and_self]
theorem ints_get {xs : List Int} {i : Nat} (h : i < xs.length) : (xs.map AV.int)[i]?.getD .und = .int (xs[i]?.getD default) := by simp [h]
theorem tidy_ints {xs : List Int} {hp : List (Nat × BX)} : (xs.map AV.int).map (tidy hp) = xs.map .int := by
  rw [List.map_map]
  rfl
attribute [go_sem] tidy_ints ints_get setAt_ints map_ints bids_ints scopes_ints

/-- The first n bounds of those that are there before any word. -/
def rkL (n : Nat) : List Int := (List.range 49).map fun m => if m < n ∧ m / 7 ≠ m % 7 then free else 0
theorem rkL_len (n : Nat) : (rkL n).length = 49 := by simp [rkL]
theorem rkL_end : rkL 49 = rock0 := by decide
theorem rkL_zero : rkL 0 = List.replicate 49 0 := by decide
theorem rkL_no (n : Nat) (h : n / 7 = n % 7) : rkL (n + 1) = rkL n := by
  unfold rkL
  apply List.map_congr_left
  intro m _
  by_cases e : m = n
  · subst e; rw [if_neg (by omega), if_neg (by omega)]
  · by_cases q : m < n ∧ m / 7 ≠ m % 7
    · rw [if_pos q, if_pos (by omega)]
    · rw [if_neg q, if_neg (by omega)]
theorem rkL_set (n : Nat) (h : n / 7 ≠ n % 7) (hn : n < 49) : (rkL n).set n free = rkL (n + 1) := by
  apply List.ext_getElem (by simp [rkL])
  intro m h1 h2
  rw [List.getElem_set]
  simp only [rkL, List.getElem_map, List.getElem_range]
  by_cases e : n = m
  · subst e; rw [if_pos rfl, if_pos (by omega)]
  · rw [if_neg e]
    by_cases q : m < n ∧ m / 7 ≠ m % 7
    · rw [if_pos q, if_pos (by omega)]
    · rw [if_neg q, if_neg (by omega)]

theorem c54 (n : Int) : Ctr Try.prog 54 [.int n] (.bool true) := by
  refine ctr_of_wp Do.hmix Try.func54 m54 rfl ?_
  unfold v54
  simp -failIfUnchanged (disch := first | omega | (simp <;> omega) | fail) only [go_sem, simprocAttr]
  try simp

abbrev TC (t : Tw) : List AV := [.int t.wells, .sl 3 (t.sn.map SN) .sh, .sl 4 (t.sl.map SLP) .sh]
def clsQ (b : List Int) (Z : List AV) : AV → HpL → TkL → Option Ex → Prop := fun v hp' tk' pd' => v = .bool true ∧ hp' = [(1008, ⟨b.map .int, false⟩), (2, ⟨Z, false⟩)] ∧ tk' = [] ∧ pd' = none

theorem clsQ_mk {b : List Int} {Z : List AV} : clsQ b Z (.bool true) [(1008, ⟨b.map .int, false⟩), (2, ⟨Z, false⟩)] [] none := ⟨rfl, rfl, rfl, rfl⟩

theorem c62 {x : Nat → Int} (hx : ∀ i, 0 ≤ x i ∧ x i ≤ 99) {b : List Int} (hb : Bo x b) (t : Tw) (X : List FrL) (hX : ∀ fr B, leX ⟨fr, [(1008, ⟨B, false⟩), (2, ⟨TC t, false⟩)], [], none⟩ X) :
    CSem ⟨Try.prog, X, none, false⟩ 62 [.ptr 1008 0] [(1008, ⟨b.map .int, false⟩), (2, ⟨TC t, false⟩)] [] none (clsQ (kL b 7) (TC t)) := by
  refine csem_of_wp Do.hmix Try.func62 m62 rfl rfl ?_
  unfold v62
  simp -failIfUnchanged (disch := first | omega | (simp <;> omega) | fail) only [go_sem, simprocAttr]
  refine wp_loopY Nat (fun k => ⟨[(0, .ptr 1008 0), (7, .int k)], [(1008, ⟨(kL b k).map .int, false⟩), (2, ⟨TC t, false⟩)], [], none⟩) (fun k => k ≤ 7) (fun k => 7 - k) 0 (by simp) (by simp -failIfUnchanged (disch := first | omega | (simp <;> omega) | fail) only [go_sem, simprocAttr]; simp [kL]) (fun _ => hX _ _) ?_
  intro k hk
  have hk : k ≤ 7 := hk
  simp -failIfUnchanged (disch := first | omega | (simp <;> omega) | fail) only [go_sem, simprocAttr]
  refine wcond_dec (fun hc => ?_) (fun hc => ?_)
  · have hk7 : k < 7 := by omega
    have hbk := bo_kL hb k hk
    obtain ⟨B, hB⟩ : ∃ B, kL b k = B := ⟨_, rfl⟩
    have hks : kL b (k + 1) = iL k B 7 := by rw [← hB]; rfl
    rw [hB] at hbk ⊢
    simp -failIfUnchanged (disch := first | omega | (simp <;> omega) | fail) only [go_sem, simprocAttr]
    refine wp_loopY Nat (fun i => ⟨[(0, .ptr 1008 0), (3, .int k), (7, .int k), (10, .int i)], [(1008, ⟨(iL k B i).map .int, false⟩), (2, ⟨TC t, false⟩)], [], none⟩) (fun i => i ≤ 7) (fun i => 7 - i) 0 (by simp) (by simp -failIfUnchanged (disch := first | omega | (simp <;> omega) | fail) only [go_sem, simprocAttr]; simp [iL]) (fun _ => hX _ _) ?_
    intro i hi
    have hi : i ≤ 7 := hi
    simp -failIfUnchanged (disch := first | omega | (simp <;> omega) | fail) only [go_sem, simprocAttr]
    refine wcond_dec (fun hc2 => ?_) (fun hc2 => ?_)
    · have hi7 : i < 7 := by omega
      have hbi := bo_iL hbk hk7 i hi
      obtain ⟨D, hD⟩ : ∃ D, iL k B i = D := ⟨_, rfl⟩
      have his : iL k B (i + 1) = jL k i D 7 := by rw [← hD]; rfl
      rw [hD] at hbi ⊢
      simp -failIfUnchanged (disch := first | omega | (simp <;> omega) | fail) only [go_sem, simprocAttr]
      refine wp_loopY Nat (fun j => ⟨[(0, .ptr 1008 0), (3, .int k), (4, .int i), (7, .int k), (10, .int i), (13, .int j)], [(1008, ⟨(jL k i D j).map .int, false⟩), (2, ⟨TC t, false⟩)], [], none⟩) (fun j => j ≤ 7) (fun j => 7 - j) 0 (by simp) (by simp -failIfUnchanged (disch := first | omega | (simp <;> omega) | fail) only [go_sem, simprocAttr]; simp [jL]) (fun _ => hX _ _) ?_
      intro j hj
      have hj : j ≤ 7 := hj
      simp -failIfUnchanged (disch := first | omega | (simp <;> omega) | fail) only [go_sem, simprocAttr]
      refine wcond_dec (fun hc3 => ?_) (fun hc3 => ?_)
      · have hj7 : j < 7 := by omega
        have hbj := bo_jL hbi hk7 hi7 j hj
        obtain ⟨F, hF⟩ : ∃ F, jL k i D j = F := ⟨_, rfl⟩
        have hjs : jL k i D (j + 1) = jst k i j F := by rw [← hF]; rfl
        rw [hF] at hbj ⊢
        have hl := hbj.len
        have u1 := hbj.up i k hi7 hk7
        have u2 := hbj.up k j hk7 hj7
        have s1 := hbj.so i k hi7 hk7
        have s2 := hbj.so k j hk7 hj7
        have x1 := hx i
        have x2 := hx j
        have x3 := hx k
        unfold bat at0 free at u1 u2
        unfold bat at0 at s1 s2
        unfold jst bat at0 free at hjs
        simp -failIfUnchanged (disch := first | omega | (simp <;> omega) | fail) only [go_sem, simprocAttr, hl]
        refine WGd_bool (fun h1 => ?_) (fun h1 => ?_)
        · have h1' := of_decide_eq_true h1
          simp -failIfUnchanged (disch := first | omega | (simp <;> omega) | fail) only [go_sem, simprocAttr, h1, hl]
          refine wcond_dec (fun h2 => ?_) (fun h2 => ?_)
          · rw [if_pos ⟨h1', h2⟩] at hjs
            refine wopsB [] ?_
            simp -failIfUnchanged (disch := first | omega | (simp <;> omega) | fail) only [go_sem, simprocAttr, hl]
            refine wcall_in Do.hmix Try.func65 m65 rfl ?_
            unfold v65
            simp -failIfUnchanged (disch := first | omega | (simp <;> omega) | fail) only [go_sem, simprocAttr, hl]
            refine lpy_norm (fun _ => hX _ _) ⟨j + 1, by omega, by omega, ?_⟩
            rw [hjs]
            simp -failIfUnchanged (disch := first | omega | (simp <;> omega) | fail) only [go_sem, simprocAttr]
            unfold lv bat at0
            simp
          · rw [if_neg (fun h => h2 h.2)] at hjs
            simp -failIfUnchanged (disch := first | omega | (simp <;> omega) | fail) only [go_sem, simprocAttr]
            refine lpy_norm (fun _ => hX _ _) ⟨j + 1, by omega, by omega, ?_⟩
            rw [hjs]
            simp -failIfUnchanged (disch := first | omega | (simp <;> omega) | fail) only [go_sem, simprocAttr]
            try simp
        · have h1' := of_decide_eq_false h1
          rw [if_neg (fun h => h1' h.1)] at hjs
          simp -failIfUnchanged (disch := first | omega | (simp <;> omega) | fail) only [go_sem, simprocAttr, h1]
          refine lpy_norm (fun _ => hX _ _) ⟨j + 1, by omega, by omega, ?_⟩
          rw [hjs]
          simp -failIfUnchanged (disch := first | omega | (simp <;> omega) | fail) only [go_sem, simprocAttr]
          try simp
      · obtain rfl : j = 7 := by omega
        simp -failIfUnchanged (disch := first | omega | (simp <;> omega) | fail) only [go_sem, simprocAttr]
        refine lpy_norm (fun _ => hX _ _) ⟨i + 1, by omega, by omega, ?_⟩
        rw [his]
        simp -failIfUnchanged (disch := first | omega | (simp <;> omega) | fail) only [go_sem, simprocAttr]
        try simp
    · obtain rfl : i = 7 := by omega
      simp -failIfUnchanged (disch := first | omega | (simp <;> omega) | fail) only [go_sem, simprocAttr]
      refine lpy_norm (fun _ => hX _ _) ⟨k + 1, by omega, by omega, ?_⟩
      rw [hks]
      simp -failIfUnchanged (disch := first | omega | (simp <;> omega) | fail) only [go_sem, simprocAttr]
      try simp
  obtain rfl : k = 7 := by omega
  have hbe := bo_kL hb 7 (by decide)
  generalize kL b 7 = F at hbe ⊢
  have hle := hbe.len
  simp -failIfUnchanged (disch := first | omega | (simp <;> omega) | fail) only [go_sem, simprocAttr]
  refine wp_loopY Nat (fun i => ⟨[(0, .ptr 1008 0), (56, .int i)], [(1008, ⟨F.map .int, false⟩), (2, ⟨TC t, false⟩)], [], none⟩) (fun i => i ≤ 7) (fun i => 7 - i) 0 (by simp) (by simp -failIfUnchanged (disch := first | omega | (simp <;> omega) | fail) only [go_sem, simprocAttr]; try simp) (fun _ => hX _ _) ?_
  intro i hi
  have hi : i ≤ 7 := hi
  simp -failIfUnchanged (disch := first | omega | (simp <;> omega) | fail) only [go_sem, simprocAttr]
  refine wcond_dec (fun hc => ?_) (fun hc => ?_)
  · have hi7 : i < 7 := by omega
    have s1 := hbe.so i i hi7 hi7
    unfold bat at0 at s1
    simp -failIfUnchanged (disch := first | omega | (simp <;> omega) | fail) only [go_sem, simprocAttr, hle]
    refine wcond_dec (fun h2 => ?_) (fun h2 => ?_)
    · omega
    · simp -failIfUnchanged (disch := first | omega | (simp <;> omega) | fail) only [go_sem, simprocAttr]
      refine lpy_norm (fun _ => hX _ _) ⟨i + 1, by omega, by omega, ?_⟩
      simp -failIfUnchanged (disch := first | omega | (simp <;> omega) | fail) only [go_sem, simprocAttr]
      try simp
  · simp -failIfUnchanged (disch := first | omega | (simp <;> omega) | fail) only [go_sem, simprocAttr]
    exact clsQ_mk

theorem c53 (t : Tw) (hv : Vt t) {l : List Int} (hl : Tr t l) : Ctr Try.prog 53 [TWN t, .clo 54 [] []] (.tup [BO (said t), .bool true]) := by
  refine ctr_of_wp Do.hmix Try.func53 m53 rfl ?_
  unfold v53
  have hw := hv.w
  have n1 := hv.n1
  have n2 := hv.n2
  obtain ⟨W, hW⟩ : ∃ W : Nat, t.wells = W := ⟨t.wells.toNat, by omega⟩
  simp -failIfUnchanged (disch := first | omega | (simp <;> omega) | fail) only [go_sem, simprocAttr, hW]
  refine wcall_in Do.hmix Try.func59 m59 rfl ?_
  unfold v59
  have hz := rkL_zero
  simp -failIfUnchanged (disch := first | omega | (simp <;> omega) | fail) only [go_sem, simprocAttr]
  refine wp_loopY Nat (fun i => ⟨[(0, .int W), (3, .ptr 1008 0), (9, .int i)], [(1008, ⟨(rkL (i * 7)).map .int, false⟩), (2, ⟨[.int W, .sl 3 (t.sn.map SN) .sh, .sl 4 (t.sl.map SLP) .sh], false⟩)], [], none⟩) (fun i => i ≤ 7) (fun i => 7 - i) 0 (by simp) (by simp -failIfUnchanged (disch := first | omega | (simp <;> omega) | fail) only [go_sem, simprocAttr]; simp [hz]) (fun _ => by simp -failIfUnchanged (disch := first | omega | (simp <;> omega) | fail) only [go_sem, simprocAttr]) ?_
  intro i hi
  have hi : i ≤ 7 := hi
  simp -failIfUnchanged (disch := first | omega | (simp <;> omega) | fail) only [go_sem, simprocAttr]
  refine wcond_dec (fun hc => ?_) (fun hc => ?_)
  · have hlt : i < 7 := by omega
    simp -failIfUnchanged (disch := first | omega | (simp <;> omega) | fail) only [go_sem, simprocAttr]
    refine wp_loopY Nat (fun k => ⟨[(0, .int W), (3, .ptr 1008 0), (4, .int i), (9, .int i), (12, .int k)], [(1008, ⟨(rkL (i * 7 + k)).map .int, false⟩), (2, ⟨[.int W, .sl 3 (t.sn.map SN) .sh, .sl 4 (t.sl.map SLP) .sh], false⟩)], [], none⟩) (fun k => k ≤ 7) (fun k => 7 - k) 0 (by simp) (by simp -failIfUnchanged (disch := first | omega | (simp <;> omega) | fail) only [go_sem, simprocAttr]; try simp) (fun _ => by simp -failIfUnchanged (disch := first | omega | (simp <;> omega) | fail) only [go_sem, simprocAttr]) ?_
    intro k hk
    have hk : k ≤ 7 := hk
    have hrl := rkL_len (i * 7 + k)
    simp -failIfUnchanged (disch := first | omega | (simp <;> omega) | fail) only [go_sem, simprocAttr]
    refine wcond_dec (fun hc2 => ?_) (fun hc2 => ?_)
    · have hlt2 : k < 7 := by omega
      simp -failIfUnchanged (disch := first | omega | (simp <;> omega) | fail) only [go_sem, simprocAttr]
      refine wcond_dec (fun hc3 => ?_) (fun hc3 => ?_)
      · have hs := rkL_set (i * 7 + k) (by omega) (by omega)
        unfold free at hs
        simp -failIfUnchanged (disch := first | omega | (simp <;> omega) | fail) only [go_sem, simprocAttr, hrl]
        refine lpy_norm (fun _ => by simp -failIfUnchanged (disch := first | omega | (simp <;> omega) | fail) only [go_sem, simprocAttr]) ⟨k + 1, by omega, by omega, ?_⟩
        rw [← Nat.add_assoc, ← hs]
        simp -failIfUnchanged (disch := first | omega | (simp <;> omega) | fail) only [go_sem, simprocAttr]
        try simp
      · have hs := rkL_no (i * 7 + k) (by omega)
        simp -failIfUnchanged (disch := first | omega | (simp <;> omega) | fail) only [go_sem, simprocAttr]
        refine lpy_norm (fun _ => by simp -failIfUnchanged (disch := first | omega | (simp <;> omega) | fail) only [go_sem, simprocAttr]) ⟨k + 1, by omega, by omega, ?_⟩
        rw [← Nat.add_assoc, hs]
        simp -failIfUnchanged (disch := first | omega | (simp <;> omega) | fail) only [go_sem, simprocAttr]
        try simp
    · obtain rfl : k = 7 := by omega
      simp -failIfUnchanged (disch := first | omega | (simp <;> omega) | fail) only [go_sem, simprocAttr]
      refine lpy_norm (fun _ => by simp -failIfUnchanged (disch := first | omega | (simp <;> omega) | fail) only [go_sem, simprocAttr]) ⟨i + 1, by omega, by omega, ?_⟩
      rw [show (i + 1) * 7 = i * 7 + 7 by omega]
      simp -failIfUnchanged (disch := first | omega | (simp <;> omega) | fail) only [go_sem, simprocAttr]
      try simp
  obtain rfl : i = 7 := by omega
  have hre : rkL (7 * 7) = rockL 0 := rkL_end
  rw [hre]
  simp -failIfUnchanged (disch := first | omega | (simp <;> omega) | fail) only [go_sem, simprocAttr]
  refine wp_loopY Nat (fun w => ⟨[(3, .ptr 1008 0), (26, .int W), (27, .int w)], [(1008, ⟨(rockL w).map .int, false⟩), (2, ⟨[.int W, .sl 3 (t.sn.map SN) .sh, .sl 4 (t.sl.map SLP) .sh], false⟩)], [], none⟩) (fun w => w ≤ W) (fun w => W - w) 0 (by simp) (by simp -failIfUnchanged (disch := first | omega | (simp <;> omega) | fail) only [go_sem, simprocAttr]; try simp) (fun _ => by simp -failIfUnchanged (disch := first | omega | (simp <;> omega) | fail) only [go_sem, simprocAttr]) ?_
  intro w hww
  have hww : w ≤ W := hww
  have hbr := bo_rock hv hl w (by omega)
  have hrl := hbr.len
  simp -failIfUnchanged (disch := first | omega | (simp <;> omega) | fail) only [go_sem, simprocAttr]
  refine wcond_dec (fun hc => ?_) (fun hc => ?_)
  · have hlt : w < W := by omega
    simp -failIfUnchanged (disch := first | omega | (simp <;> omega) | fail) only [go_sem, simprocAttr]
    refine wcall_in Do.hmix Try.func65 m65 rfl ?_
    unfold v65
    simp -failIfUnchanged (disch := first | omega | (simp <;> omega) | fail) only [go_sem, simprocAttr, hrl]
    refine wcall_in Do.hmix Try.func65 m65 rfl ?_
    unfold v65
    simp -failIfUnchanged (disch := first | omega | (simp <;> omega) | fail) only [go_sem, simprocAttr, hrl]
    refine lpy_norm (fun _ => by simp -failIfUnchanged (disch := first | omega | (simp <;> omega) | fail) only [go_sem, simprocAttr]) ⟨w + 1, by omega, by omega, ?_⟩
    have hs : rockL (w + 1) = ((rockL w).set (42 + w) (min ((rockL w)[42 + w]?.getD default) 99)).set (w * 7 + 6) (min (((rockL w).set (42 + w) (min ((rockL w)[42 + w]?.getD default) 99))[w * 7 + 6]?.getD default) 0) := rfl
    rw [hs]
    simp -failIfUnchanged (disch := first | omega | (simp <;> omega) | fail) only [go_sem, simprocAttr]
    try simp
  obtain rfl : w = W := by omega
  have hro : rockL w = rockL t.wells.toNat := by rw [hW]; rfl
  rw [hro]
  have hb0 := bo_rock hv hl _ (Nat.le_refl t.wells.toNat)
  obtain ⟨B0, hB0⟩ : ∃ B0, rockL t.wells.toNat = B0 := ⟨_, rfl⟩
  rw [hB0] at hb0 ⊢
  simp -failIfUnchanged (disch := first | omega | (simp <;> omega) | fail) only [go_sem, simprocAttr]
  refine wp_loop' Nat (fun n => ⟨[(1, .clo 54 [] []), (2, .ptr 2 0), (6, .ptr 1008 0), (15, .sl 3 (t.sn.map SN) .sh), (16, .int t.sn.length), (17, .int n)], [(1008, ⟨(sdL B0 t.sn n).map .int, false⟩), (2, ⟨[.int w, .sl 3 (t.sn.map SN) .sh, .sl 4 (t.sl.map SLP) .sh], false⟩)], [], none⟩) (fun n => n ≤ t.sn.length) (fun n => t.sn.length - n) 0 (by simp) (by simp -failIfUnchanged (disch := first | omega | (simp <;> omega) | fail) only [go_sem, simprocAttr]; simp [sdL]) ?_
  intro n hn
  have hn : n ≤ t.sn.length := hn
  have hb1 := bo_sdL hv hl hb0 n hn
  have hbl := hb1.len
  simp -failIfUnchanged (disch := first | omega | (simp <;> omega) | fail) only [go_sem, simprocAttr]
  refine wcond_dec (fun hc => ?_) (fun hc => ?_)
  · have hlt : n < t.sn.length := by omega
    have hsn := hv.sn _ (mem_at hlt)
    have hsu := sdL_succ B0 t.sn hlt
    obtain ⟨⟨sw, slo, shi⟩, hs⟩ : ∃ s : Sn, t.sn[n]?.getD default = s := ⟨_, rfl⟩
    rw [hs] at hsn hsu
    dsimp only at hsn
    obtain ⟨q, rfl⟩ : ∃ q : Nat, sw = q := ⟨sw.toNat, by omega⟩
    simp -failIfUnchanged (disch := first | omega | (simp <;> omega) | fail) only [go_sem, simprocAttr, hs]
    refine wcall (c54 _) ?_
    simp -failIfUnchanged (disch := first | omega | (simp <;> omega) | fail) only [go_sem, simprocAttr]
    refine wcall_in Do.hmix Try.func60 m60 rfl ?_
    unfold v60
    simp -failIfUnchanged (disch := first | omega | (simp <;> omega) | fail) only [go_sem, simprocAttr]
    refine wcall_in Do.hmix Try.func65 m65 rfl ?_
    unfold v65
    simp -failIfUnchanged (disch := first | omega | (simp <;> omega) | fail) only [go_sem, simprocAttr, hbl]
    refine wcall_in Do.hmix Try.func65 m65 rfl ?_
    unfold v65
    simp -failIfUnchanged (disch := first | omega | (simp <;> omega) | fail) only [go_sem, simprocAttr, hbl]
    refine ⟨n + 1, by dsimp only; omega, by dsimp only; omega, ?_⟩
    dsimp only
    rw [hsu]
    unfold sndL lv bat at0
    simp -failIfUnchanged (disch := first | omega | (simp <;> omega) | fail) only [go_sem, simprocAttr]
    try simp
  obtain rfl : n = t.sn.length := by omega
  obtain ⟨B1, hB1⟩ : ∃ B1, sdL B0 t.sn t.sn.length = B1 := ⟨_, rfl⟩
  rw [hB1] at hb1 ⊢
  simp -failIfUnchanged (disch := first | omega | (simp <;> omega) | fail) only [go_sem, simprocAttr]
  refine wp_loop' Nat (fun n => ⟨[(1, .clo 54 [] []), (2, .ptr 2 0), (6, .ptr 1008 0), (30, .sl 4 (t.sl.map SLP) .sh), (31, .int t.sl.length), (32, .int n)], [(1008, ⟨(spL B1 t.sl n).map .int, false⟩), (2, ⟨[.int w, .sl 3 (t.sn.map SN) .sh, .sl 4 (t.sl.map SLP) .sh], false⟩)], [], none⟩) (fun n => n ≤ t.sl.length) (fun n => t.sl.length - n) 0 (by simp) (by simp -failIfUnchanged (disch := first | omega | (simp <;> omega) | fail) only [go_sem, simprocAttr]; simp [spL]) ?_
  intro n hn2
  have hn2 : n ≤ t.sl.length := hn2
  have hb2 := bo_spL hv hl hb1 n hn2
  have hbl2 := hb2.len
  simp -failIfUnchanged (disch := first | omega | (simp <;> omega) | fail) only [go_sem, simprocAttr]
  refine wcond_dec (fun hc => ?_) (fun hc => ?_)
  · have hlt : n < t.sl.length := by omega
    have hsn := hv.sl _ (mem_at hlt)
    have hsu := spL_succ B1 t.sl hlt
    obtain ⟨⟨sa, sb, slo, shi⟩, hs⟩ : ∃ s : Sl, t.sl[n]?.getD default = s := ⟨_, rfl⟩
    rw [hs] at hsn hsu
    dsimp only at hsn
    obtain ⟨q, rfl⟩ : ∃ q : Nat, sa = q := ⟨sa.toNat, by omega⟩
    obtain ⟨r, rfl⟩ : ∃ r : Nat, sb = r := ⟨sb.toNat, by omega⟩
    simp -failIfUnchanged (disch := first | omega | (simp <;> omega) | fail) only [go_sem, simprocAttr, hs]
    refine wcall (c54 _) ?_
    simp -failIfUnchanged (disch := first | omega | (simp <;> omega) | fail) only [go_sem, simprocAttr]
    refine wcall_in Do.hmix Try.func61 m61 rfl ?_
    unfold v61
    simp -failIfUnchanged (disch := first | omega | (simp <;> omega) | fail) only [go_sem, simprocAttr]
    refine wcall_in Do.hmix Try.func65 m65 rfl ?_
    unfold v65
    simp -failIfUnchanged (disch := first | omega | (simp <;> omega) | fail) only [go_sem, simprocAttr, hbl2]
    refine wcall_in Do.hmix Try.func65 m65 rfl ?_
    unfold v65
    simp -failIfUnchanged (disch := first | omega | (simp <;> omega) | fail) only [go_sem, simprocAttr, hbl2]
    refine ⟨n + 1, by dsimp only; omega, by dsimp only; omega, ?_⟩
    dsimp only
    rw [hsu]
    unfold slpL lv bat at0
    simp -failIfUnchanged (disch := first | omega | (simp <;> omega) | fail) only [go_sem, simprocAttr]
    try simp
  obtain rfl : n = t.sl.length := by omega
  have hwd : spL B1 t.sl t.sl.length = word t := by rw [← hB1, ← hB0]; rfl
  rw [hwd]
  have hT : [AV.int w, .sl 3 (t.sn.map SN) .sh, .sl 4 (t.sl.map SLP) .sh] = TC t := by rw [show (w : Int) = t.wells by omega]
  simp -failIfUnchanged (disch := first | omega | (simp <;> omega) | fail) only [go_sem, simprocAttr]
  rw [hT]
  refine wcalli (c62 (fun i => lev_bd hl i) (bo_word hv hl) t _ (fun fr B => ?_)) ?_
  · simp -failIfUnchanged (disch := first | omega | (simp <;> omega) | fail) only [go_sem, simprocAttr]
  rintro _ hp' tk' pd' ⟨rfl, rfl, rfl, rfl⟩
  simp -failIfUnchanged (disch := first | omega | (simp <;> omega) | fail) only [go_sem, simprocAttr]
  have hsl := (bo_said hv hl).len
  unfold said at *
  rw [hsl]

end Go.Proofs.Ytpangdaijhiohaa.Lv


/- Check, truths, small functions of towns of levels. -/
set_option linter.unusedSimpArgs false
set_option linter.unusedVariables false
set_option linter.unnecessarySimpa false
namespace Go.Proofs.Ytpangdaijhiohaa.Lv
open Go Go.V

abbrev wi := Do.within
theorem wi_iff {n lo hi : Int} : wi n lo hi = true ↔ lo ≤ n ∧ n ≤ hi := Do.within_iff
theorem c55 (n lo hi : Int) : Ctr Try.prog 55 [.int n, .int lo, .int hi] (.bool (wi n lo hi)) := by
  refine ctr_of_wp Do.hmix Try.func55 m55 rfl ?_
  unfold v55
  simp -failIfUnchanged (disch := first | omega | (simp <;> omega) | fail) only [go_sem, simprocAttr]
  refine WGd_bool (fun h => ?_) (fun h => ?_)
  · simp -failIfUnchanged (disch := first | omega | (simp <;> omega) | fail) only [go_sem, simprocAttr, h]
    simp only [decide_eq_true_eq] at h
    simp [Do.within, h]
  · simp -failIfUnchanged (disch := first | omega | (simp <;> omega) | fail) only [go_sem, simprocAttr, h]
    simp only [Bool.not_true, decide_eq_false_iff_not] at h
    simp [Do.within, h]

theorem c42 (t : Tw) (n : Int) : Ctr Try.prog 42 [TWN t, .int n] (.bool (wi n 0 (w64 (t.wells - 1)))) := by
  refine ctr_of_wp Do.hmix Try.func42 m42 rfl ?_
  unfold v42
  simp -failIfUnchanged (disch := first | omega | (simp <;> omega) | fail) only [go_sem, simprocAttr]
  refine wcall (c55 _ _ _) ?_
  simp -failIfUnchanged (disch := first | omega | (simp <;> omega) | fail) only [go_sem, simprocAttr]
  try simp
theorem c20 (t : Tw) (n : Int) : Ctr Try.prog 20 [TWN t, .int n] (.bool (wi n 0 (w64 (t.wells - 1)))) := by
  refine ctr_of_wp Do.hmix Try.func20 m20 rfl ?_
  unfold v20
  simp -failIfUnchanged (disch := first | omega | (simp <;> omega) | fail) only [go_sem, simprocAttr]
  refine wcall (Do.c19 _ _ _) ?_
  simp -failIfUnchanged (disch := first | omega | (simp <;> omega) | fail) only [go_sem, simprocAttr]
  try simp

def headB (t : Tw) : Bool := wi t.wells 0 6 && (decide ((t.sn.length : Int) ≤ 8) && decide ((t.sl.length : Int) ≤ 8))
def snB (t : Tw) (s : Sn) : Bool := wi s.w 0 (w64 (t.wells - 1)) && (wi s.hi 0 99 && wi s.lo 0 s.hi)
def slB (t : Tw) (s : Sl) : Bool := wi s.a 0 (w64 (t.wells - 1)) && (wi s.b 0 (w64 (t.wells - 1)) && (decide (¬ s.a = s.b) && (wi s.hi (-99) 99 && wi s.lo (-99) s.hi)))
def chkB (t : Tw) : Bool := headB t && (t.sn.all (snB t) && t.sl.all (slB t))
def errT (t : Tw) : Int := if chkB t then 0 else 10

theorem vt_of {t : Tw} (h : chkB t = true) : Vt t := by
  simp only [chkB, headB, snB, slB, Bool.and_eq_true, List.all_eq_true, decide_eq_true_eq, wi_iff] at h
  obtain ⟨⟨h1, h2, h3⟩, h4, h5⟩ := h
  have e : t.wells - 1 = w64 (t.wells - 1) := (w64_id (by omega)).symm
  refine ⟨h1, by omega, by omega, fun s hs => ?_, fun s hs => ?_⟩
  · have := h4 s hs
    omega
  · have := h5 s hs
    omega
theorem err_0 {t : Tw} (h : errT t = 0) : Vt t := by
  unfold errT at h
  by_cases e : chkB t = true
  · exact vt_of e
  · rw [if_neg e] at h; omega
theorem err_head {t : Tw} (h : headB t = false) : errT t = 10 := by simp [errT, chkB, h]
theorem err_sn {t : Tw} {i : Nat} (hi : i < t.sn.length) (h : snB t (t.sn[i]?.getD default) = false) : errT t = 10 := by
  have : t.sn.all (snB t) = false := List.all_eq_false.2 ⟨_, mem_at hi, by rw [h]; simp⟩
  simp [errT, chkB, this]
theorem err_sl {t : Tw} {i : Nat} (hi : i < t.sl.length) (h : slB t (t.sl[i]?.getD default) = false) : errT t = 10 := by
  have : t.sl.all (slB t) = false := List.all_eq_false.2 ⟨_, mem_at hi, by rw [h]; simp⟩
  simp [errT, chkB, this]
theorem all_snoc {α : Type} [Inhabited α] {l : List α} {p : α → Bool} {i : Nat} (hi : i < l.length) (h : ∀ x ∈ l.take i, p x = true) (h2 : p (l[i]?.getD default) = true) : ∀ x ∈ l.take (i + 1), p x = true := by
  intro x hx
  rw [List.take_add_one, List.getElem?_eq_getElem hi] at hx
  rcases List.mem_append.1 hx with hx | hx
  · exact h x hx
  · rw [List.getElem?_eq_getElem hi] at h2
    rw [List.mem_singleton.1 hx]
    exact h2

theorem c5 (t : Tw) : Ctr Try.prog 5 [TWN t] (.int (errT t)) := by
  refine ctr_of_wp Do.hmix Try.func5 m5 rfl ?_
  unfold v5
  simp -failIfUnchanged (disch := first | omega | (simp <;> omega) | fail) only [go_sem, simprocAttr]
  refine wcall (Do.c19 _ _ _) ?_
  cases hw : wi t.wells 0 6 with
  | false =>
    simp -failIfUnchanged (disch := first | omega | (simp <;> omega) | fail) only [go_sem, simprocAttr, hw]
    rw [err_head (by simp [headB, hw])]
  | true =>
    simp -failIfUnchanged (disch := first | omega | (simp <;> omega) | fail) only [go_sem, simprocAttr, hw]
    refine WGd_bool (fun g1 => ?_) (fun g1 => ?_)
    · have g1' := of_decide_eq_false g1
      simp -failIfUnchanged (disch := first | omega | (simp <;> omega) | fail) only [go_sem, simprocAttr, g1]
      refine wcond_dec (fun g2 => ?_) (fun g2 => ?_)
      · simp -failIfUnchanged (disch := first | omega | (simp <;> omega) | fail) only [go_sem, simprocAttr]
        rw [err_head (by simp [headB]; omega)]
      · have hwb := wi_iff.1 hw
        simp -failIfUnchanged (disch := first | omega | (simp <;> omega) | fail) only [go_sem, simprocAttr]
        refine wp_loop' Nat (fun i => ⟨[(1, .ptr 1 0), (3, .int i)], [(1, ⟨TC t, false⟩)], [], none⟩) (fun i => i ≤ t.sn.length ∧ ∀ x ∈ t.sn.take i, snB t x = true) (fun i => t.sn.length - i) 0 (by simp) (by simp -failIfUnchanged (disch := first | omega | (simp <;> omega) | fail) only [go_sem, simprocAttr]; try simp) ?_
        rintro i ⟨hi, hpre⟩
        simp -failIfUnchanged (disch := first | omega | (simp <;> omega) | fail) only [go_sem, simprocAttr]
        refine wcond_dec (fun hc => ?_) (fun hc => ?_)
        · have hlt : i < t.sn.length := by omega
          have hsn := err_sn (t := t) hlt
          have hsn2 := all_snoc hlt hpre
          obtain ⟨⟨sw, slo, shi⟩, hs⟩ : ∃ s : Sn, t.sn[i]?.getD default = s := ⟨_, rfl⟩
          rw [hs] at hsn hsn2
          unfold snB at hsn
          simp -failIfUnchanged (disch := first | omega | (simp <;> omega) | fail) only [go_sem, simprocAttr, hs]
          refine wcall (c20 t _) ?_
          cases k1 : wi sw 0 (w64 (t.wells - 1)) with
          | false =>
            simp -failIfUnchanged (disch := first | omega | (simp <;> omega) | fail) only [go_sem, simprocAttr]
            rw [hsn (by simp [k1])]
          | true =>
            simp -failIfUnchanged (disch := first | omega | (simp <;> omega) | fail) only [go_sem, simprocAttr]
            refine wcall (Do.c19 _ _ _) ?_
            cases k2 : wi shi 0 99 with
            | false =>
              simp -failIfUnchanged (disch := first | omega | (simp <;> omega) | fail) only [go_sem, simprocAttr, k2]
              rw [hsn (by simp [k2])]
            | true =>
              simp -failIfUnchanged (disch := first | omega | (simp <;> omega) | fail) only [go_sem, simprocAttr, k2]
              refine wcall (Do.c19 _ _ _) ?_
              cases k3 : wi slo 0 shi with
              | false =>
                simp -failIfUnchanged (disch := first | omega | (simp <;> omega) | fail) only [go_sem, simprocAttr, k3]
                rw [hsn (by simp [k3])]
              | true =>
                simp -failIfUnchanged (disch := first | omega | (simp <;> omega) | fail) only [go_sem, simprocAttr, k3]
                refine ⟨i + 1, ⟨by omega, hsn2 (by simp [snB, k1, k2, k3])⟩, by dsimp only; omega, ?_⟩
                simp -failIfUnchanged (disch := first | omega | (simp <;> omega) | fail) only [go_sem, simprocAttr]
                try simp
        · have hi' : i = t.sn.length := by omega
          have hall : ∀ x ∈ t.sn, snB t x = true := by rw [hi', List.take_length] at hpre; exact hpre
          simp -failIfUnchanged (disch := first | omega | (simp <;> omega) | fail) only [go_sem, simprocAttr]
          refine wp_loop' Nat (fun i => ⟨[(1, .ptr 1 0), (5, .int i)], [(1, ⟨TC t, false⟩)], [], none⟩) (fun i => i ≤ t.sl.length ∧ ∀ x ∈ t.sl.take i, slB t x = true) (fun i => t.sl.length - i) 0 (by simp) (by simp -failIfUnchanged (disch := first | omega | (simp <;> omega) | fail) only [go_sem, simprocAttr]; try simp) ?_
          rintro i ⟨hi, hpre⟩
          simp -failIfUnchanged (disch := first | omega | (simp <;> omega) | fail) only [go_sem, simprocAttr]
          refine wcond_dec (fun hc => ?_) (fun hc => ?_)
          · have hlt : i < t.sl.length := by omega
            have hsn := err_sl (t := t) hlt
            have hsn2 := all_snoc hlt hpre
            obtain ⟨⟨sa, sb, slo, shi⟩, hs⟩ : ∃ s : Sl, t.sl[i]?.getD default = s := ⟨_, rfl⟩
            rw [hs] at hsn hsn2
            unfold slB at hsn
            simp -failIfUnchanged (disch := first | omega | (simp <;> omega) | fail) only [go_sem, simprocAttr, hs]
            refine wcall (c20 t _) ?_
            cases k1 : wi sa 0 (w64 (t.wells - 1)) with
            | false =>
              simp -failIfUnchanged (disch := first | omega | (simp <;> omega) | fail) only [go_sem, simprocAttr]
              rw [hsn (by simp [k1])]
            | true =>
              simp -failIfUnchanged (disch := first | omega | (simp <;> omega) | fail) only [go_sem, simprocAttr]
              refine wcall (c20 t _) ?_
              cases k2 : wi sb 0 (w64 (t.wells - 1)) with
              | false =>
                simp -failIfUnchanged (disch := first | omega | (simp <;> omega) | fail) only [go_sem, simprocAttr]
                rw [hsn (by simp [k2])]
              | true =>
                simp -failIfUnchanged (disch := first | omega | (simp <;> omega) | fail) only [go_sem, simprocAttr]
                refine WGd_bool (fun g3 => ?_) (fun g3 => ?_)
                · have g3' := of_decide_eq_false g3
                  simp -failIfUnchanged (disch := first | omega | (simp <;> omega) | fail) only [go_sem, simprocAttr, g3]
                  refine wcall (Do.c19 _ _ _) ?_
                  cases k3 : wi shi (-99) 99 with
                  | false =>
                    simp -failIfUnchanged (disch := first | omega | (simp <;> omega) | fail) only [go_sem, simprocAttr, k3]
                    rw [hsn (by simp [k3])]
                  | true =>
                    simp -failIfUnchanged (disch := first | omega | (simp <;> omega) | fail) only [go_sem, simprocAttr, k3]
                    refine wcall (Do.c19 _ _ _) ?_
                    cases k4 : wi slo (-99) shi with
                    | false =>
                      simp -failIfUnchanged (disch := first | omega | (simp <;> omega) | fail) only [go_sem, simprocAttr, k4]
                      rw [hsn (by simp [k4])]
                    | true =>
                      simp -failIfUnchanged (disch := first | omega | (simp <;> omega) | fail) only [go_sem, simprocAttr, k4]
                      refine ⟨i + 1, ⟨by omega, hsn2 (by simp [slB, k1, k2, k3, k4, g3'])⟩, by dsimp only; omega, ?_⟩
                      simp -failIfUnchanged (disch := first | omega | (simp <;> omega) | fail) only [go_sem, simprocAttr]
                      try simp
                · have g3' : sa = sb := by simpa using g3
                  simp -failIfUnchanged (disch := first | omega | (simp <;> omega) | fail) only [go_sem, simprocAttr, g3]
                  rw [hsn (by simp [g3'])]
          · have hi' : i = t.sl.length := by omega
            have hall2 : ∀ x ∈ t.sl, slB t x = true := by rw [hi', List.take_length] at hpre; exact hpre
            simp -failIfUnchanged (disch := first | omega | (simp <;> omega) | fail) only [go_sem, simprocAttr]
            have : errT t = 0 := by
              unfold errT chkB
              rw [List.all_eq_true.2 hall, List.all_eq_true.2 hall2]
              simp [headB, hw]
              omega
            rw [this]
    · have g1' : 8 < (t.sn.length : Int) := by simpa using g1
      simp -failIfUnchanged (disch := first | omega | (simp <;> omega) | fail) only [go_sem, simprocAttr, g1]
      rw [err_head (by simp [headB]; omega)]

end Go.Proofs.Ytpangdaijhiohaa.Lv


/- Levels: Check, truths, Far, Copy, one more sounding, Level. -/
set_option linter.unusedSimpArgs false
set_option linter.unusedVariables false
set_option linter.unnecessarySimpa false
namespace Go.Proofs.Ytpangdaijhiohaa.Lv
open Go Go.V

theorem c52 (t : Tw) (hv : Vt t) : Ctr Try.prog 52 [TWN t] (.int 0) := by
  refine ctr_of_wp Do.hmix Try.func52 m52 rfl ?_
  unfold v52
  have hw := hv.w
  have n1 := hv.n1
  have n2 := hv.n2
  have hw2 : wi t.wells 0 6 = true := wi_iff.2 hw
  have e1 : w64 (t.wells - 1) = t.wells - 1 := w64_id (by omega)
  simp -failIfUnchanged (disch := first | omega | (simp <;> omega) | fail) only [go_sem, simprocAttr]
  refine wcall (c55 _ _ _) ?_
  rw [hw2]
  simp -failIfUnchanged (disch := first | omega | (simp <;> omega) | fail) only [go_sem, simprocAttr]
  refine WGd_bool (fun g1 => ?_) (fun g1 => ?_)
  · simp -failIfUnchanged (disch := first | omega | (simp <;> omega) | fail) only [go_sem, simprocAttr, g1]
    refine wcond_dec (fun g2 => ?_) (fun g2 => ?_)
    · omega
    simp -failIfUnchanged (disch := first | omega | (simp <;> omega) | fail) only [go_sem, simprocAttr]
    refine wp_loop' Nat (fun i => ⟨[(1, .ptr 1 0), (24, .sl 3 (t.sn.map SN) .sh), (25, .int t.sn.length), (26, .int i)], [(1, ⟨TC t, false⟩)], [], none⟩) (fun i => i ≤ t.sn.length) (fun i => t.sn.length - i) 0 (by simp) (by simp -failIfUnchanged (disch := first | omega | (simp <;> omega) | fail) only [go_sem, simprocAttr]; try simp) ?_
    intro i hi
    have hi : i ≤ t.sn.length := hi
    simp -failIfUnchanged (disch := first | omega | (simp <;> omega) | fail) only [go_sem, simprocAttr]
    refine wcond_dec (fun hc => ?_) (fun hc => ?_)
    · have hlt : i < t.sn.length := by omega
      have hsn := hv.sn _ (mem_at hlt)
      obtain ⟨⟨sw, slo, shi⟩, hs⟩ : ∃ s : Sn, t.sn[i]?.getD default = s := ⟨_, rfl⟩
      rw [hs] at hsn
      dsimp only at hsn
      have k1 : wi sw 0 (w64 (t.wells - 1)) = true := wi_iff.2 (by omega)
      have k2 : wi slo 0 shi = true := wi_iff.2 (by omega)
      simp -failIfUnchanged (disch := first | omega | (simp <;> omega) | fail) only [go_sem, simprocAttr, hs]
      refine wcall (c42 t _) ?_
      rw [k1]
      simp -failIfUnchanged (disch := first | omega | (simp <;> omega) | fail) only [go_sem, simprocAttr]
      refine wcall (c55 _ _ _) ?_
      rw [k2]
      simp -failIfUnchanged (disch := first | omega | (simp <;> omega) | fail) only [go_sem, simprocAttr]
      refine wcond_dec (fun h => ?_) (fun h => ?_)
      · omega
      simp -failIfUnchanged (disch := first | omega | (simp <;> omega) | fail) only [go_sem, simprocAttr]
      refine ⟨i + 1, by dsimp only; omega, by dsimp only; omega, ?_⟩
      simp -failIfUnchanged (disch := first | omega | (simp <;> omega) | fail) only [go_sem, simprocAttr]
      try simp
    · simp -failIfUnchanged (disch := first | omega | (simp <;> omega) | fail) only [go_sem, simprocAttr]
      refine wp_loop' Nat (fun i => ⟨[(1, .ptr 1 0), (50, .sl 4 (t.sl.map SLP) .sh), (51, .int t.sl.length), (52, .int i)], [(1, ⟨TC t, false⟩)], [], none⟩) (fun i => i ≤ t.sl.length) (fun i => t.sl.length - i) 0 (by simp) (by simp -failIfUnchanged (disch := first | omega | (simp <;> omega) | fail) only [go_sem, simprocAttr]; try simp) ?_
      intro i hi
      have hi : i ≤ t.sl.length := hi
      simp -failIfUnchanged (disch := first | omega | (simp <;> omega) | fail) only [go_sem, simprocAttr]
      refine wcond_dec (fun hc => ?_) (fun hc => ?_)
      · have hlt : i < t.sl.length := by omega
        have hsn := hv.sl _ (mem_at hlt)
        obtain ⟨⟨sa, sb, slo, shi⟩, hs⟩ : ∃ s : Sl, t.sl[i]?.getD default = s := ⟨_, rfl⟩
        rw [hs] at hsn
        dsimp only at hsn
        have k1 : wi sa 0 (w64 (t.wells - 1)) = true := wi_iff.2 (by omega)
        have k2 : wi sb 0 (w64 (t.wells - 1)) = true := wi_iff.2 (by omega)
        have k3 : wi slo (-99) shi = true := wi_iff.2 (by omega)
        have k4 : decide (sa = sb) = false := decide_eq_false hsn.2.2.1
        simp -failIfUnchanged (disch := first | omega | (simp <;> omega) | fail) only [go_sem, simprocAttr, hs]
        refine wcall (c42 t _) ?_
        rw [k1]
        simp -failIfUnchanged (disch := first | omega | (simp <;> omega) | fail) only [go_sem, simprocAttr]
        refine wcall (c42 t _) ?_
        rw [k2]
        simp -failIfUnchanged (disch := first | omega | (simp <;> omega) | fail) only [go_sem, simprocAttr, k4]
        refine wcall (c55 _ _ _) ?_
        rw [k3]
        simp -failIfUnchanged (disch := first | omega | (simp <;> omega) | fail) only [go_sem, simprocAttr]
        refine wcond_dec (fun h => ?_) (fun h => ?_)
        · omega
        simp -failIfUnchanged (disch := first | omega | (simp <;> omega) | fail) only [go_sem, simprocAttr]
        refine ⟨i + 1, by dsimp only; omega, by dsimp only; omega, ?_⟩
        simp -failIfUnchanged (disch := first | omega | (simp <;> omega) | fail) only [go_sem, simprocAttr]
        try simp
      · simp -failIfUnchanged (disch := first | omega | (simp <;> omega) | fail) only [go_sem, simprocAttr]
  · have g1' : 8 < (t.sn.length : Int) := by simpa using g1
    omega

def trB (t : Tw) (l : List Int) : Bool := decide ((l.length : Int) = t.wells) && (l.all (fun n => wi n 0 99) && (t.sn.all (fun s => wi (at0 l s.w.toNat) s.lo s.hi) && t.sl.all (fun s => wi (at0 l s.b.toNat - at0 l s.a.toNat) s.lo s.hi)))
theorem tr_iff {t : Tw} {l : List Int} : trB t l = true ↔ Tr t l := by
  simp only [trB, Bool.and_eq_true, List.all_eq_true, decide_eq_true_eq, wi_iff]
  constructor
  · rintro ⟨h1, h2, h3, h4⟩
    refine ⟨h1, fun i hi => ?_, h3, h4⟩
    exact h2 _ (mem_at hi)
  · intro h
    refine ⟨h.len, fun x hx => ?_, h.sn, h.sl⟩
    obtain ⟨i, hi, e⟩ := List.mem_iff_getElem.1 hx
    have := h.lo i hi
    have e2 : at0 l i = x := by unfold at0; rw [List.getElem?_eq_getElem hi]; exact e
    rw [e2] at this
    exact this

theorem c6 (t : Tw) (hv : Vt t) (l : List Int) (hl : l.length ≤ 40) : Ctr Try.prog 6 [TWN t, .sl 1 (l.map .int) .sh] (.bool (trB t l)) := by
  refine ctr_of_wp Do.hmix Try.func6 m6 rfl ?_
  unfold v6
  have hw := hv.w
  have n1 := hv.n1
  have n2 := hv.n2
  simp -failIfUnchanged (disch := first | omega | (simp <;> omega) | fail) only [go_sem, simprocAttr]
  refine wcond_dec (fun h1 => ?_) (fun h1 => ?_)
  · simp -failIfUnchanged (disch := first | omega | (simp <;> omega) | fail) only [go_sem, simprocAttr]
    simp [trB, h1]
  have h1' : (l.length : Int) = t.wells := by omega
  simp -failIfUnchanged (disch := first | omega | (simp <;> omega) | fail) only [go_sem, simprocAttr]
  refine wp_loop' Nat (fun i => ⟨[(1, .sl 1 (l.map .int) .sh), (2, .ptr 2 0), (5, .int i)], [(2, ⟨TC t, false⟩)], [], none⟩) (fun i => i ≤ l.length ∧ ∀ x ∈ l.take i, wi x 0 99 = true) (fun i => l.length - i) 0 (by simp) (by simp -failIfUnchanged (disch := first | omega | (simp <;> omega) | fail) only [go_sem, simprocAttr]; try simp) ?_
  rintro i ⟨hi, hpre⟩
  simp -failIfUnchanged (disch := first | omega | (simp <;> omega) | fail) only [go_sem, simprocAttr]
  refine wcond_dec (fun hc => ?_) (fun hc => ?_)
  · have hlt : i < l.length := by omega
    have hsn2 := all_snoc (p := fun n => wi n 0 99) hlt hpre
    simp -failIfUnchanged (disch := first | omega | (simp <;> omega) | fail) only [go_sem, simprocAttr]
    refine wcall (Do.c19 _ _ _) ?_
    cases k1 : wi (l[i]?.getD default) 0 99 with
    | false =>
      simp -failIfUnchanged (disch := first | omega | (simp <;> omega) | fail) only [go_sem, simprocAttr, k1]
      have : l.all (fun n => wi n 0 99) = false := List.all_eq_false.2 ⟨_, mem_at hlt, by rw [k1]; simp⟩
      simp [trB, this]
    | true =>
      simp -failIfUnchanged (disch := first | omega | (simp <;> omega) | fail) only [go_sem, simprocAttr, k1]
      refine ⟨i + 1, ⟨by omega, hsn2 k1⟩, by dsimp only; omega, ?_⟩
      simp -failIfUnchanged (disch := first | omega | (simp <;> omega) | fail) only [go_sem, simprocAttr]
      try simp
  have hall1 : ∀ x ∈ l, wi x 0 99 = true := by rw [show i = l.length by omega, List.take_length] at hpre; exact hpre
  simp -failIfUnchanged (disch := first | omega | (simp <;> omega) | fail) only [go_sem, simprocAttr]
  refine wp_loop' Nat (fun i => ⟨[(1, .sl 1 (l.map .int) .sh), (2, .ptr 2 0), (6, .int i)], [(2, ⟨TC t, false⟩)], [], none⟩) (fun i => i ≤ t.sn.length ∧ ∀ s ∈ t.sn.take i, wi (at0 l s.w.toNat) s.lo s.hi = true) (fun i => t.sn.length - i) 0 (by simp) (by simp -failIfUnchanged (disch := first | omega | (simp <;> omega) | fail) only [go_sem, simprocAttr]; try simp) ?_
  rintro i ⟨hi, hpre⟩
  simp -failIfUnchanged (disch := first | omega | (simp <;> omega) | fail) only [go_sem, simprocAttr]
  refine wcond_dec (fun hc => ?_) (fun hc => ?_)
  · have hlt : i < t.sn.length := by omega
    have hsn := hv.sn _ (mem_at hlt)
    have hmem := mem_at hlt
    have hsn2 := all_snoc (p := fun s : Sn => wi (at0 l s.w.toNat) s.lo s.hi) hlt hpre
    obtain ⟨⟨sw, slo, shi⟩, hs⟩ : ∃ s : Sn, t.sn[i]?.getD default = s := ⟨_, rfl⟩
    rw [hs] at hsn hsn2 hmem
    dsimp only at hsn hsn2
    obtain ⟨q, rfl⟩ : ∃ q : Nat, sw = q := ⟨sw.toNat, by omega⟩
    rw [Int.toNat_natCast] at hsn2
    simp -failIfUnchanged (disch := first | omega | (simp <;> omega) | fail) only [go_sem, simprocAttr, hs]
    refine wcall (Do.c19 _ _ _) ?_
    cases k1 : wi (l[q]?.getD default) slo shi with
    | false =>
      simp -failIfUnchanged (disch := first | omega | (simp <;> omega) | fail) only [go_sem, simprocAttr, k1]
      have : t.sn.all (fun s => wi (at0 l s.w.toNat) s.lo s.hi) = false := List.all_eq_false.2 ⟨_, hmem, by dsimp only; rw [Int.toNat_natCast]; simp [k1]⟩
      simp [trB, this]
    | true =>
      simp -failIfUnchanged (disch := first | omega | (simp <;> omega) | fail) only [go_sem, simprocAttr, k1]
      refine ⟨i + 1, ⟨by omega, hsn2 k1⟩, by dsimp only; omega, ?_⟩
      simp -failIfUnchanged (disch := first | omega | (simp <;> omega) | fail) only [go_sem, simprocAttr]
      try simp
  have hall2 : ∀ s ∈ t.sn, wi (at0 l s.w.toNat) s.lo s.hi = true := by rw [show i = t.sn.length by omega, List.take_length] at hpre; exact hpre
  simp -failIfUnchanged (disch := first | omega | (simp <;> omega) | fail) only [go_sem, simprocAttr]
  refine wp_loop' Nat (fun i => ⟨[(1, .sl 1 (l.map .int) .sh), (2, .ptr 2 0), (8, .int i)], [(2, ⟨TC t, false⟩)], [], none⟩) (fun i => i ≤ t.sl.length ∧ ∀ s ∈ t.sl.take i, wi (at0 l s.b.toNat - at0 l s.a.toNat) s.lo s.hi = true) (fun i => t.sl.length - i) 0 (by simp) (by simp -failIfUnchanged (disch := first | omega | (simp <;> omega) | fail) only [go_sem, simprocAttr]; try simp) ?_
  rintro i ⟨hi, hpre⟩
  simp -failIfUnchanged (disch := first | omega | (simp <;> omega) | fail) only [go_sem, simprocAttr]
  refine wcond_dec (fun hc => ?_) (fun hc => ?_)
  · have hlt : i < t.sl.length := by omega
    have hsn := hv.sl _ (mem_at hlt)
    have hmem := mem_at hlt
    have hsn2 := all_snoc (p := fun s : Sl => wi (at0 l s.b.toNat - at0 l s.a.toNat) s.lo s.hi) hlt hpre
    obtain ⟨⟨sa, sb, slo, shi⟩, hs⟩ : ∃ s : Sl, t.sl[i]?.getD default = s := ⟨_, rfl⟩
    rw [hs] at hsn hsn2 hmem
    dsimp only at hsn hsn2
    obtain ⟨q, rfl⟩ : ∃ q : Nat, sa = q := ⟨sa.toNat, by omega⟩
    obtain ⟨r, rfl⟩ : ∃ r : Nat, sb = r := ⟨sb.toNat, by omega⟩
    rw [Int.toNat_natCast, Int.toNat_natCast] at hsn2
    have b1 := wi_iff.1 (hall1 _ (mem_at (show q < l.length by omega)))
    have b2 := wi_iff.1 (hall1 _ (mem_at (show r < l.length by omega)))
    simp -failIfUnchanged (disch := first | omega | (simp <;> omega) | fail) only [go_sem, simprocAttr, hs]
    refine wcall (Do.c19 _ _ _) ?_
    cases k1 : wi (l[r]?.getD default - l[q]?.getD default) slo shi with
    | false =>
      simp -failIfUnchanged (disch := first | omega | (simp <;> omega) | fail) only [go_sem, simprocAttr, k1]
      have : t.sl.all (fun s => wi (at0 l s.b.toNat - at0 l s.a.toNat) s.lo s.hi) = false := List.all_eq_false.2 ⟨_, hmem, by dsimp only; rw [Int.toNat_natCast, Int.toNat_natCast]; simp [k1]⟩
      simp [trB, this]
    | true =>
      simp -failIfUnchanged (disch := first | omega | (simp <;> omega) | fail) only [go_sem, simprocAttr, k1]
      refine ⟨i + 1, ⟨by omega, hsn2 k1⟩, by dsimp only; omega, ?_⟩
      simp -failIfUnchanged (disch := first | omega | (simp <;> omega) | fail) only [go_sem, simprocAttr]
      try simp
  have hall3 : ∀ s ∈ t.sl, wi (at0 l s.b.toNat - at0 l s.a.toNat) s.lo s.hi = true := by rw [show i = t.sl.length by omega, List.take_length] at hpre; exact hpre
  simp -failIfUnchanged (disch := first | omega | (simp <;> omega) | fail) only [go_sem, simprocAttr]
  have : trB t l = true := by
    unfold trB
    rw [List.all_eq_true.2 hall1, List.all_eq_true.2 hall2, List.all_eq_true.2 hall3]
    simp [h1']
  rw [this]

def hugeB (t : Tw) : Bool := decide (40 < (t.sn.length : Int)) || decide (40 < (t.sl.length : Int))
theorem c17 (t : Tw) : Ctr Try.prog 17 [TWN t] (.bool (hugeB t)) := by
  refine ctr_of_wp Do.hmix Try.func17 m17 rfl ?_
  unfold v17 hugeB
  simp -failIfUnchanged (disch := first | omega | (simp <;> omega) | fail) only [go_sem, simprocAttr]
  refine WGd_bool (fun g1 => ?_) (fun g1 => ?_)
  · simp -failIfUnchanged (disch := first | omega | (simp <;> omega) | fail) only [go_sem, simprocAttr, g1]
  · simp -failIfUnchanged (disch := first | omega | (simp <;> omega) | fail) only [go_sem, simprocAttr, g1]
theorem c18 (t : Tw) (h1 : t.sn.length ≤ 40) (h2 : t.sl.length ≤ 40) : Ctr Try.prog 18 [TWN t] (.int ((t.sn.length : Int) + t.sl.length)) := by
  refine ctr_of_wp Do.hmix Try.func18 m18 rfl ?_
  unfold v18
  simp -failIfUnchanged (disch := first | omega | (simp <;> omega) | fail) only [go_sem, simprocAttr]
  try simp
theorem huge_0 {t : Tw} (h : hugeB t = false) : t.sn.length ≤ 40 ∧ t.sl.length ≤ 40 := by
  simp [hugeB] at h
  omega
def farB (t : Tw) : Bool := hugeB t || ((decide (5 < t.wells) || decide (8 < (t.sn.length : Int) + t.sl.length)) && decide (errT t = 0))
theorem c4 (t : Tw) : Ctr Try.prog 4 [TWN t] (.bool (farB t)) := by
  refine ctr_of_wp Do.hmix Try.func4 m4 rfl ?_
  unfold v4 farB
  simp -failIfUnchanged (disch := first | omega | (simp <;> omega) | fail) only [go_sem, simprocAttr]
  refine wcall (c17 t) ?_
  cases hh : hugeB t with
  | true => simp -failIfUnchanged (disch := first | omega | (simp <;> omega) | fail) only [go_sem, simprocAttr]
  | false =>
    obtain ⟨n1, n2⟩ := huge_0 hh
    simp -failIfUnchanged (disch := first | omega | (simp <;> omega) | fail) only [go_sem, simprocAttr]
    cases k1 : decide (5 < t.wells) with
    | true =>
      simp -failIfUnchanged (disch := first | omega | (simp <;> omega) | fail) only [go_sem, simprocAttr]
      refine wcall (c5 t) ?_
      simp -failIfUnchanged (disch := first | omega | (simp <;> omega) | fail) only [go_sem, simprocAttr]
      try simp
    | false =>
      simp -failIfUnchanged (disch := first | omega | (simp <;> omega) | fail) only [go_sem, simprocAttr]
      refine wcall (c18 t n1 n2) ?_
      simp -failIfUnchanged (disch := first | omega | (simp <;> omega) | fail) only [go_sem, simprocAttr]
      cases k2 : decide (8 < (t.sn.length : Int) + t.sl.length) with
      | true =>
        simp -failIfUnchanged (disch := first | omega | (simp <;> omega) | fail) only [go_sem, simprocAttr]
        refine wcall (c5 t) ?_
        simp -failIfUnchanged (disch := first | omega | (simp <;> omega) | fail) only [go_sem, simprocAttr]
        try simp
      | false =>
        simp -failIfUnchanged (disch := first | omega | (simp <;> omega) | fail) only [go_sem, simprocAttr]
        try simp

theorem ag25 : aggOf Try.prog 25 = some true := by kernel_rfl
theorem sz25 : szOf Try.prog 25 = some 3 := by kernel_rfl
theorem ag67 : aggOf Try.prog 67 = some true := by kernel_rfl
theorem sz67 : szOf Try.prog 67 = some 2 := by kernel_rfl
attribute [go_sem] ag25 sz25 ag67 sz67
theorem flat_sn (l : List Sn) : (flat (l.map SN)).length = l.length * 3 := by
  induction l with
  | nil => rfl
  | cons x r ih =>
    show ((SN x).cells ++ flat (r.map SN)).length = _
    rw [List.length_append, ih]
    simp only [AV.cells, List.length_cons, List.length_nil]
    omega
theorem strip_sn (l : List Sn) (hp : HpL) : (flat (l.map SN)).map (strip hp) = flat (l.map SN) := by
  induction l with
  | nil => rfl
  | cons s r ih =>
    show ((SN s).cells ++ flat (r.map SN)).map (strip hp) = _
    rw [List.map_append, ih]
    rfl
theorem chunks_sn : ∀ (l : List Sn) (cells : List AV) (off : Nat), cells.drop off = flat (l.map SN) → chunks true 3 cells off l.length = l.map SN
  | [], _, _, _ => rfl
  | x :: r, cells, off, h => by
    have h' : cells.drop off = AV.int x.w :: .int x.lo :: .int x.hi :: flat (r.map SN) := h
    have hr : cells.drop (off + 3) = flat (r.map SN) := by rw [← List.drop_drop, h']; rfl
    show chunk true 3 cells off :: chunks true 3 cells (off + 3) r.length = _
    rw [chunks_sn r cells (off + 3) hr]
    show AV.agg ((cells.drop off).take 3) :: _ = _
    rw [h']
    rfl
theorem chunks_sn1 (l : List Sn) (s : Sn) : chunks true 3 (flat (l.map SN) ++ [AV.int s.w, .int s.lo, .int s.hi]) 0 (l.length + 1) = (l ++ [s]).map SN := by
  have := chunks_sn (l ++ [s]) (flat (l.map SN) ++ [AV.int s.w, .int s.lo, .int s.hi]) 0 (by
    rw [List.drop_zero, List.map_append]
    generalize l.map SN = k
    induction k with
    | nil => rfl
    | cons x r ih => show x.cells ++ flat r ++ _ = x.cells ++ flat (r ++ _); rw [List.append_assoc, ih])
  rw [List.length_append] at this
  exact this
theorem c8 (t : Tw) (n1 : t.sn.length ≤ 40) (n2 : t.sl.length ≤ 40) (s : Sn) : Ctr Try.prog 8 [TWN t, SN s] (TWN ⟨t.wells, t.sn ++ [s], t.sl⟩) := by
  refine ctr_of_wp Do.hmix Try.func8 m8g rfl ?_
  unfold v8g
  have hfl := flat_sn t.sn
  have hch := chunks_sn1 t.sn s
  have hle : ((t.sn.length + 1) * 3 ≤ t.sn.length * 3 + 3) = True := eq_true (by omega)
  simp -failIfUnchanged (disch := first | omega | (simp <;> omega) | fail) only [go_sem, simprocAttr]
  refine wcall_in Do.hmix Try.func25 m25f rfl ?_
  unfold v25f
  simp -failIfUnchanged (disch := first | omega | (simp <;> omega) | fail) only [go_sem, simprocAttr, hfl]
  refine wopsN [K 1 0 1] ?_
  have hst := strip_sn t.sn
  have hs0 : ∀ (hp : HpL) (n : Int), strip hp (.int n) = .int n := fun _ _ => rfl
  simp -failIfUnchanged (disch := first | omega | (simp <;> omega) | fail) only [go_sem, simprocAttr, hfl, hle, hst, hs0, List.map_append]
  rw [hch]
  try simp

/-- What a difference is between, as it is stored. -/
abbrev SPN (lo hi : Int) : AV := .agg [.int lo, .int hi]
theorem c43 (b : List Int) (hb : b.length = 49) (i k : Nat) (hi : i < 7) (hk : k < 7) (h1 : -2000000 ≤ bat b k i ∧ bat b k i ≤ 2000000) : Ctr Try.prog 43 [BO b, .int i, .int k] (SPN (0 - bat b k i) (bat b i k)) := by
  refine ctr_of_wp Do.hmix Try.func43 m43 rfl ?_
  unfold v43
  unfold bat at0 at *
  simp -failIfUnchanged (disch := first | omega | (simp <;> omega) | fail) only [go_sem, simprocAttr, hb]
  try simp

theorem c41 (t : Tw) (hv : Vt t) {l : List Int} (hl : Tr t l) : Ctr Try.prog 41 [TWN t, .bool true] (.tup [BO (said t), .int 0]) := by
  refine ctr_of_wp Do.hmix Try.func41 m41 rfl ?_
  unfold v41
  simp -failIfUnchanged (disch := first | omega | (simp <;> omega) | fail) only [go_sem, simprocAttr]
  refine wcall (c52 t hv) ?_
  simp -failIfUnchanged (disch := first | omega | (simp <;> omega) | fail) only [go_sem, simprocAttr]
  refine wcall (c53 t hv hl) ?_
  simp -failIfUnchanged (disch := first | omega | (simp <;> omega) | fail) only [go_sem, simprocAttr]
  try simp

theorem bat_bd {x : Nat → Int} (hx : ∀ i, 0 ≤ x i ∧ x i ≤ 99) {b : List Int} (hb : Bo x b) {i k : Nat} (hi : i < 7) (hk : k < 7) : -2000000 ≤ bat b i k ∧ bat b i k ≤ 2000000 := by
  have h1 := hb.up i k hi hk
  have h2 := hb.so i k hi hk
  have h3 := hx i
  have h4 := hx k
  unfold free at h1
  omega

theorem c26 (t : Tw) (hv : Vt t) {l : List Int} (hl : Tr t l) (w : Nat) (hw : w < l.length) : Ctr Try.prog 26 [TWN t, .int w] (.tup [SPN (loI t w) (hiI t w), .int 0]) := by
  refine ctr_of_wp Do.hmix Try.func26 m26 rfl ?_
  unfold v26
  have hw6 := hv.w
  have hln := hl.len
  have hbo := bo_said hv hl
  have e1 : w64 (t.wells - 1) = t.wells - 1 := w64_id (by omega)
  have k1 : wi (w : Int) 0 (w64 (t.wells - 1)) = true := wi_iff.2 (by omega)
  have k2 := c43 (said t) hbo.len 6 w (by decide) (by omega) (bat_bd (fun i => lev_bd hl i) hbo (by omega) (by decide))
  simp -failIfUnchanged (disch := first | omega | (simp <;> omega) | fail) only [go_sem, simprocAttr]
  refine wcall (c42 t _) ?_
  rw [k1]
  simp -failIfUnchanged (disch := first | omega | (simp <;> omega) | fail) only [go_sem, simprocAttr]
  refine wcall (c41 t hv hl) ?_
  simp -failIfUnchanged (disch := first | omega | (simp <;> omega) | fail) only [go_sem, simprocAttr]
  refine wcall k2 ?_
  unfold loI hiI
  simp -failIfUnchanged (disch := first | omega | (simp <;> omega) | fail) only [go_sem, simprocAttr]
  try simp

end Go.Proofs.Ytpangdaijhiohaa.Lv


/- The greatest levels; examples. -/
set_option linter.unusedSimpArgs false
set_option linter.unusedVariables false
set_option linter.unnecessarySimpa false
namespace Go.Proofs.Ytpangdaijhiohaa.Lv
open Go Go.V

theorem c40 (lo hi : Int) : Ctr Try.prog 40 [SPN lo hi] (.int hi) := by
  refine ctr_of_wp Do.hmix Try.func40 m40 rfl ?_
  unfold v40
  simp -failIfUnchanged (disch := first | omega | (simp <;> omega) | fail) only [go_sem, simprocAttr]
  try simp
theorem c51 (b : List Int) (n : Int) : Ctr Try.prog 51 [BO b, .int n] (.clo 58 [] [.ref 1 [.agg [.int n]] 0 0, .ref 1 [.agg [BO b]] 0 0]) := by
  refine ctr_of_wp Do.hmix Try.func51 m51 rfl ?_
  unfold v51
  simp -failIfUnchanged (disch := first | omega | (simp <;> omega) | fail) only [go_sem, simprocAttr]
  try simp

def md30 : Nat → VM
  | 0 => .full
  | _ + 1 => .own 30
def tk30 : Nat → TkL
  | 0 => []
  | n + 1 => [(30, n + 1)]
theorem md30_0 : md30 0 = .full := rfl
theorem md30_s {n : Nat} : md30 (n + 1) = .own 30 := rfl
theorem tk30_0 : tk30 0 = [] := rfl
theorem tk30_s {n : Nat} : tk30 (n + 1) = [(30, n + 1)] := rfl
theorem inS_md30 {fr : FrL} {hp : HpL} {pd : Option Ex} {n sz : Nat} {l : List AV} : inScope ⟨fr, hp, tk30 n, pd⟩ (.sl sz l (md30 n)) = True := by
  cases n with
  | zero => rfl
  | succ n => simp [inScope, md30, tk30, getT]
theorem leTk_30 {τ : AS} {n : Nat} : leTk τ (tk30 n) (tk30 n) = True := by
  cases n with
  | zero => rfl
  | succ n => simp [leTk, tk30, getT]
theorem strip_md30 {hp : HpL} {n sz : Nat} {l : List AV} : strip hp (.sl sz l (md30 n)) = .sl sz l .sh := by cases n <;> rfl
attribute [go_sem] inS_md30 leTk_30 strip_md30

def hiL (t : Tw) (n : Nat) : List Int := (List.range n).map (hiI t)
theorem hiL_succ (t : Tw) (n : Nat) : hiL t (n + 1) = hiL t n ++ [hiI t n] := by simp [hiL, List.range_succ]
theorem hiL_len (t : Tw) (n : Nat) : (hiL t n).length = n := by simp [hiL]

theorem c39 (t : Tw) (hv : Vt t) {l : List Int} (hl : Tr t l) : Ctr Try.prog 39 [TWN t, .clo 40 [] []] (.tup [.sl 1 ((hiL t l.length).map .int) .sh, .int 0]) := by
  refine ctr_of_wp Do.hmix Try.func39 m39 rfl ?_
  unfold v39
  have hw6 := hv.w
  have hln := hl.len
  have hbo := bo_said hv hl
  simp -failIfUnchanged (disch := first | omega | (simp <;> omega) | fail) only [go_sem, simprocAttr]
  refine wcall (c41 t hv hl) ?_
  simp -failIfUnchanged (disch := first | omega | (simp <;> omega) | fail) only [go_sem, simprocAttr]
  refine wcall (c51 (said t) t.wells) ?_
  simp -failIfUnchanged (disch := first | omega | (simp <;> omega) | fail) only [go_sem, simprocAttr]
  refine wp_range' ?_
  simp -failIfUnchanged (disch := first | omega | (simp <;> omega) | fail) only [go_sem, simprocAttr]
  refine wrange fun y T hT => ?_
  refine csem_of_wp Do.hmix Try.func58 m58 rfl rfl ?_
  unfold v58
  simp -failIfUnchanged (disch := first | omega | (simp <;> omega) | fail) only [go_sem, simprocAttr]
  refine wp_loopX Nat (fun i => ⟨[(0, .yld y), (2, .ref 1 [.agg [BO (said t)]] 0 0), (5, .int t.wells), (6, .int i)], [(8, ⟨[.sl 1 ((hiL t i).map .int) (md30 i)], false⟩), (3, ⟨[.clo 40 [] []], false⟩), (2, ⟨TC t, false⟩)], tk30 i, none⟩) (fun i => i ≤ l.length) (fun i => l.length - i) 0 (by simp) (by simp -failIfUnchanged (disch := first | omega | (simp <;> omega) | fail) only [go_sem, simprocAttr]; simp [hiL, md30, tk30, leTk]) (fun x => by simp -failIfUnchanged (disch := first | omega | (simp <;> omega) | fail) only [go_sem, simprocAttr]) ?_
  intro i hi
  have hi : i ≤ l.length := hi
  simp -failIfUnchanged (disch := first | omega | (simp <;> omega) | fail) only [go_sem, simprocAttr]
  refine wcond_dec (fun hc => ?_) (fun hc => ?_)
  · have hlt : i < l.length := by omega
    have k2 := c43 (said t) hbo.len 6 i (by decide) (by omega) (bat_bd (fun i => lev_bd hl i) hbo (by omega) (by decide))
    have hs := hiL_succ t i
    have hll := hiL_len t i
    have e1 : bat (said t) 6 i = hiI t i := by unfold hiI; rfl
    rw [e1] at k2
    simp -failIfUnchanged (disch := first | omega | (simp <;> omega) | fail) only [go_sem, simprocAttr]
    refine wcall k2 ?_
    simp -failIfUnchanged (disch := first | omega | (simp <;> omega) | fail) only [go_sem, simprocAttr]
    refine wyield (hT _ _ _ _ _ rfl ?_)
    cases i with
    | zero =>
      simp -failIfUnchanged (disch := first | omega | (simp <;> omega) | fail) only [go_sem, simprocAttr, md30_0, tk30_0]
      refine wcall (c40 _ _) ?_
      simp -failIfUnchanged (disch := first | omega | (simp <;> omega) | fail) only [go_sem, simprocAttr, md30_0, tk30_0]
      refine lpx_norm ⟨1, by omega, by omega, ?_, by simp -failIfUnchanged (disch := first | omega | (simp <;> omega) | fail) only [go_sem, simprocAttr]⟩
      rw [hs]
      simp -failIfUnchanged (disch := first | omega | (simp <;> omega) | fail) only [go_sem, simprocAttr, md30_s, tk30_s]
      simp [hiL]
    | succ i =>
      simp -failIfUnchanged (disch := first | omega | (simp <;> omega) | fail) only [go_sem, simprocAttr, md30_s, tk30_s]
      refine wcall (c40 _ _) ?_
      simp -failIfUnchanged (disch := first | omega | (simp <;> omega) | fail) only [go_sem, simprocAttr, md30_s, tk30_s]
      refine ⟨hll.symm, lpx_norm ⟨i + 1 + 1, by omega, by omega, ?_, by simp -failIfUnchanged (disch := first | omega | (simp <;> omega) | fail) only [go_sem, simprocAttr]⟩⟩
      rw [hs]
      simp -failIfUnchanged (disch := first | omega | (simp <;> omega) | fail) only [go_sem, simprocAttr, md30_s, tk30_s]
      simp [hll]
  · obtain rfl : i = l.length := by omega
    simp -failIfUnchanged (disch := first | omega | (simp <;> omega) | fail) only [go_sem, simprocAttr]
    try simp

theorem c22 (t : Tw) (hv : Vt t) {l : List Int} (hl : Tr t l) : Ctr Try.prog 22 [TWN t] (.tup [.sl 1 ((hiL t l.length).map .int) .sh, .int 0]) := by
  refine ctr_of_wp Do.hmix Try.func22 m22 rfl ?_
  unfold v22
  simp -failIfUnchanged (disch := first | omega | (simp <;> omega) | fail) only [go_sem, simprocAttr]
  refine wcall (c39 t hv hl) ?_
  simp -failIfUnchanged (disch := first | omega | (simp <;> omega) | fail) only [go_sem, simprocAttr]
  try simp

/-- The example. -/
def exT : Tw := ⟨3, [⟨0, 10, 12⟩, ⟨2, 20, 30⟩], [⟨0, 1, 3, 5⟩, ⟨1, 2, 4, 8⟩]⟩
def exQ : Tw := ⟨3, [⟨0, 10, 12⟩, ⟨2, 20, 30⟩, ⟨1, 18, 19⟩], [⟨0, 1, 3, 5⟩, ⟨1, 2, 4, 8⟩]⟩
theorem exV : Vt exT := vt_of (by decide)
theorem exL : Tr exT [10, 13, 20] := tr_iff.1 (by decide)
theorem exH : hiL exT 3 = [12, 17, 25] := by kernel_rfl

theorem c21 : Ctr Try.prog 21 [] (.tup [TWN exT, TWN exQ]) := by
  refine ctr_of_wp Do.hmix Try.func21 m21 rfl ?_
  unfold v21
  have k := c8 exT (by decide) (by decide) ⟨1, 18, 19⟩
  unfold exT at k
  unfold exT exQ
  simp -failIfUnchanged (disch := first | omega | (simp <;> omega) | fail) only [go_sem, simprocAttr]
  refine wcall k ?_
  simp -failIfUnchanged (disch := first | omega | (simp <;> omega) | fail) only [go_sem, simprocAttr]
  try simp

theorem chaE : Do.chaR Do.bkE 1 = .tup [.agg [.int 1, .int 12], .int 0] := by rfl

theorem c7 : Ctr Try.prog 7 [] (.bool true) := by
  refine ctr_of_wp Do.hmix Try.func7 m7 rfl ?_
  unfold v7
  have k1 := c22 exT exV exL
  have k2 := Do.c14 Do.bkE (by decide) 1
  have k3 := Do.c24 [12, 17, 25] [12, 17, 25] (by decide)
  rw [show ([10, 13, 20] : List Int).length = 3 from rfl, exH] at k1
  rw [chaE] at k2
  simp -failIfUnchanged (disch := first | omega | (simp <;> omega) | fail) only [go_sem, simprocAttr]
  refine wcall c21 ?_
  simp -failIfUnchanged (disch := first | omega | (simp <;> omega) | fail) only [go_sem, simprocAttr]
  refine wcall k1 ?_
  simp -failIfUnchanged (disch := first | omega | (simp <;> omega) | fail) only [go_sem, simprocAttr]
  refine wcall Do.c23 ?_
  simp -failIfUnchanged (disch := first | omega | (simp <;> omega) | fail) only [go_sem, simprocAttr]
  refine wcall k2 ?_
  simp -failIfUnchanged (disch := first | omega | (simp <;> omega) | fail) only [go_sem, simprocAttr]
  refine wcall k3 ?_
  simp -failIfUnchanged (disch := first | omega | (simp <;> omega) | fail) only [go_sem, simprocAttr]
  try simp

end Go.Proofs.Ytpangdaijhiohaa.Lv


/- Plain law of the one who knows: what they say is right, and who knows more has no lesser score, no greater chance, and leads. -/
set_option linter.unusedSimpArgs false
set_option linter.unusedVariables false
set_option linter.unnecessarySimpa false
namespace Go.Proofs.Ytpangdaijhiohaa.Lv
open Go Go.V Do

def sayN (t : Tw) (d : Int) (n : Nat) : List Sy := (List.range n).map fun w : Nat => ⟨d, (w : Int), loI t w, hiI t w⟩
theorem sayN_len (t : Tw) (d : Int) (n : Nat) : (sayN t d n).length = n := by simp [sayN]
theorem sayN_succ (t : Tw) (d : Int) (n : Nat) : sayN t d (n + 1) = sayN t d n ++ [⟨d, (n : Int), loI t n, hiI t n⟩] := by simp [sayN, List.range_succ]
theorem sayN_at (t : Tw) (d : Int) {n i : Nat} (h : i < n) : (sayN t d n)[i]?.getD default = ⟨d, (i : Int), loI t i, hiI t i⟩ := by simp [sayN, h]

/-- How many depths a saying leaves. -/
def wt (t : Tw) (i : Nat) : Nat := (hiI t i - loI t i + 1).toNat

structure Jd (t o : Tw) (x : List Int) (b : Bk) : Prop where
  w6 : x.length ≤ 6
  say : b.say = sayN t 0 x.length ++ sayN o 1 x.length
  fnd : b.found = x
  dep : b.depth = 12
  dow : b.dow = 2
  bv : BV b
  ck : checkB b = true
  lt : ∀ i, i < x.length → 0 ≤ loI t i ∧ loI t i ≤ Lv.at0 x i ∧ Lv.at0 x i ≤ hiI t i ∧ hiI t i ≤ 99
  lo : ∀ i, i < x.length → loI t i ≤ loI o i ∧ loI o i ≤ Lv.at0 x i ∧ Lv.at0 x i ≤ hiI o i ∧ hiI o i ≤ hiI t i

variable {t o : Tw} {x : List Int} {b : Bk}

theorem jd_len (h : Jd t o x b) : b.say.length = x.length + x.length := by rw [h.say, List.length_append, sayN_len, sayN_len]
theorem jd_0 (h : Jd t o x b) {i : Nat} (hi : i < x.length) : syt b i = ⟨0, (i : Int), loI t i, hiI t i⟩ := by
  show b.say[i]?.getD default = _
  rw [h.say, List.getElem?_append_left (by rw [sayN_len]; exact hi)]
  exact sayN_at t 0 hi
theorem jd_1 (h : Jd t o x b) {i : Nat} (hi : i < x.length) : syt b (x.length + i) = ⟨1, (i : Int), loI o i, hiI o i⟩ := by
  show b.say[x.length + i]?.getD default = _
  rw [h.say, List.getElem?_append_right (by rw [sayN_len]; omega), sayN_len, Nat.add_sub_cancel_left]
  exact sayN_at o 1 hi
theorem jd_bd (h : Jd t o x b) {i : Nat} (hi : i < x.length) : 1 ≤ loI t i ∧ hiI t i ≤ 12 ∧ 1 ≤ loI o i ∧ hiI o i ≤ 12 := by
  have hl := jd_len h
  have h1 := h.bv.sy i (by omega)
  have h2 := h.bv.sy (x.length + i) (by omega)
  rw [jd_0 h hi] at h1
  rw [jd_1 h hi] at h2
  have := h.dep
  dsimp only at h1 h2
  omega
theorem jd_x (h : Jd t o x b) {i : Nat} (hi : i < x.length) : 1 ≤ Lv.at0 x i := by
  have := jd_bd h hi
  have := h.lt i hi
  omega
theorem jd_w0 (h : Jd t o x b) {i : Nat} (hi : i < x.length) : wid (syt b i) = (wt t i : Int) ∧ 1 ≤ wt t i ∧ wt t i ≤ 12 := by
  have hl := jd_len h
  have h1 := wid_eq h.bv (i := i) (by omega)
  rw [jd_0 h hi] at h1 ⊢
  have := jd_bd h hi
  have := h.lt i hi
  unfold wt
  dsimp only at h1
  omega
theorem jd_w1 (h : Jd t o x b) {i : Nat} (hi : i < x.length) : wid (syt b (x.length + i)) = (wt o i : Int) ∧ 1 ≤ wt o i ∧ wt o i ≤ wt t i := by
  have hl := jd_len h
  have h1 := wid_eq h.bv (i := x.length + i) (by omega)
  rw [jd_1 h hi] at h1 ⊢
  have := jd_bd h hi
  have := h.lt i hi
  have := h.lo i hi
  unfold wt
  dsimp only at h1
  omega
theorem jd_h0 (h : Jd t o x b) {i : Nat} (hi : i < x.length) : hitI (syt b i) b.found = 1 := by
  rw [jd_0 h hi, h.fnd]
  unfold hitI
  simp only [Int.toNat_natCast]
  have h1 : 1 ≤ x[i]?.getD default := jd_x h hi
  have hx2 := h.lt i hi
  unfold Lv.at0 at hx2
  replace hx2 := And.intro hx2.2.1 hx2.2.2.1
  have hx3 : ¬ x[i]?.getD default = 0 := fun e => by rw [e] at h1; exact absurd h1 (by decide)
  have hx4 := Do.within_iff.2 hx2
  simp only [if_neg hx3, hx4, if_true]
theorem jd_h1 (h : Jd t o x b) {i : Nat} (hi : i < x.length) : hitI (syt b (x.length + i)) b.found = 1 := by
  rw [jd_1 h hi, h.fnd]
  unfold hitI
  simp only [Int.toNat_natCast]
  have h1 : 1 ≤ x[i]?.getD default := jd_x h hi
  have hx2 := h.lo i hi
  unfold Lv.at0 at hx2
  replace hx2 := And.intro hx2.2.1 hx2.2.2.1
  have hx3 : ¬ x[i]?.getD default = 0 := fun e => by rw [e] at h1; exact absurd h1 (by decide)
  have hx4 := Do.within_iff.2 hx2
  simp only [if_neg hx3, hx4, if_true]

/-- Scores. -/
def scS (t : Tw) : Nat → Int
  | 0 => 0
  | n + 1 => scS t n + (12 - (wt t n : Int))
theorem pt_0 (h : Jd t o x b) {i : Nat} (hi : i < x.length) : ptsOf b (syt b i) b.found = 12 - (wt t i : Int) := by
  unfold ptsOf
  have := jd_w0 h hi
  have e : b.depth - wid (syt b i) = 12 - (wt t i : Int) := by rw [h.dep, this.1]
  have e2 : w64 (12 - (wt t i : Int)) = 12 - (wt t i : Int) := w64_id (by omega)
  have e3 := jd_h0 h hi
  rw [if_pos e3, e]
  exact e2
theorem pt_1 (h : Jd t o x b) {i : Nat} (hi : i < x.length) : ptsOf b (syt b (x.length + i)) b.found = 12 - (wt o i : Int) := by
  unfold ptsOf
  have h1 := jd_w1 h hi
  have h0 := jd_w0 h hi
  have e : b.depth - wid (syt b (x.length + i)) = 12 - (wt o i : Int) := by rw [h.dep, h1.1]
  have e2 : w64 (12 - (wt o i : Int)) = 12 - (wt o i : Int) := w64_id (by omega)
  have e3 := jd_h1 h hi
  rw [if_pos e3, e]
  exact e2
theorem sc_a (h : Jd t o x b) : ∀ k, k ≤ x.length → scoK b 0 b.found k = scS t k ∧ scoK b 1 b.found k = 0 := by
  intro k
  induction k with
  | zero => intro _; exact ⟨rfl, rfl⟩
  | succ k ih =>
    intro hk
    obtain ⟨i1, i2⟩ := ih (by omega)
    have hs := jd_0 h (i := k) (by omega)
    have hp := pt_0 h (i := k) (by omega)
    have hd : (syt b k).d = 0 := by rw [hs]
    constructor
    · show scoK b 0 b.found k + (if (syt b k).d = 0 then _ else _) = scS t k + _
      rw [if_pos hd, hp, i1]
    · show scoK b 1 b.found k + (if (syt b k).d = 1 then _ else _) = 0
      rw [if_neg (by omega), i2]; rfl
theorem sc_b (h : Jd t o x b) : ∀ k, k ≤ x.length → scoK b 0 b.found (x.length + k) = scS t x.length ∧ scoK b 1 b.found (x.length + k) = scS o k := by
  intro k
  induction k with
  | zero => intro _; exact sc_a h x.length (Nat.le_refl _)
  | succ k ih =>
    intro hk
    obtain ⟨i1, i2⟩ := ih (by omega)
    have hs := jd_1 h (i := k) (by omega)
    have hp := pt_1 h (i := k) (by omega)
    have hd : (syt b (x.length + k)).d = 1 := by rw [hs]
    have e0 : scoK b 0 b.found (x.length + (k + 1)) = scoK b 0 b.found (x.length + k) + if (syt b (x.length + k)).d = 0 then ptsOf b (syt b (x.length + k)) b.found else 0 := rfl
    have e1 : scoK b 1 b.found (x.length + (k + 1)) = scoK b 1 b.found (x.length + k) + if (syt b (x.length + k)).d = 1 then ptsOf b (syt b (x.length + k)) b.found else 0 := rfl
    constructor
    · rw [e0, if_neg (by omega), i1]; omega
    · rw [e1, if_pos hd, hp, i2]; rfl
theorem sco_0 (h : Jd t o x b) : sco b 0 b.found = scS t x.length := by
  unfold sco
  rw [jd_len h]
  exact (sc_b h x.length (Nat.le_refl _)).1
theorem sco_1 (h : Jd t o x b) : sco b 1 b.found = scS o x.length := by
  unfold sco
  rw [jd_len h]
  exact (sc_b h x.length (Nat.le_refl _)).2
theorem sc_le (h : Jd t o x b) : ∀ k, k ≤ x.length → scS t k ≤ scS o k ∧ 0 ≤ scS t k ∧ scS t k ≤ 12 * (k : Int) := by
  intro k
  induction k with
  | zero => intro _; exact ⟨Int.le_refl _, Int.le_refl _, Int.le_refl _⟩
  | succ k ih =>
    intro hk
    have := ih (by omega)
    have := jd_w0 h (i := k) (by omega)
    have := jd_w1 h (i := k) (by omega)
    simp only [scS]
    omega

/-- Chances. -/
def wiL (t : Tw) (n : Nat) : List Nat := (List.range n).map (wt t)
theorem wiL_succ (t : Tw) (n : Nat) : wiL t (n + 1) = wiL t n ++ [wt t n] := by simp [wiL, List.range_succ]
theorem wiL_len (t : Tw) (n : Nat) : (wiL t n).length = n := by simp [wiL]
theorem wd_a (h : Jd t o x b) : ∀ k, k ≤ x.length → widK b 0 k = wiL t k ∧ widK b 1 k = [] ∧ rigK b 0 k = k ∧ rigK b 1 k = 0 := by
  intro k
  induction k with
  | zero => intro _; simp [wiL, widK, rigK]
  | succ k ih =>
    intro hk
    obtain ⟨i1, i2, i3, i4⟩ := ih (by omega)
    have hs := jd_0 h (i := k) (by omega)
    have hw := (jd_w0 h (i := k) (by omega)).1
    have hx : 1 ≤ x[k]?.getD default := jd_x h (i := k) (by omega)
    have hl := h.lt k (by omega)
    have w0 : Do.isW b 0 k := ⟨by rw [hs], by rw [hs, h.fnd, Int.toNat_natCast]; omega⟩
    have w1 : ¬ Do.isW b 1 k := fun q => by have := q.1; rw [hs] at this; cases this
    have hx2 : loI t k ≤ x[k]?.getD default ∧ x[k]?.getD default ≤ hiI t k := ⟨hl.2.1, hl.2.2.1⟩
    have hh : hitB b k = true := by
      unfold hitB
      rw [hs, h.fnd, Int.toNat_natCast]
      exact Do.within_iff.2 hx2
    refine ⟨?_, ?_, ?_, ?_⟩
    · rw [widK, if_pos w0, i1, hw, Int.toNat_natCast, wiL_succ]
    · rw [widK, if_neg w1, i2]
    · rw [rigK, if_pos ⟨w0, hh⟩, i3]
    · rw [rigK, if_neg (fun q => w1 q.1), i4]
theorem wd_b (h : Jd t o x b) : ∀ k, k ≤ x.length → widK b 0 (x.length + k) = wiL t x.length ∧ widK b 1 (x.length + k) = wiL o k ∧ rigK b 0 (x.length + k) = x.length ∧ rigK b 1 (x.length + k) = k := by
  intro k
  induction k with
  | zero =>
    intro _
    obtain ⟨h1, h2, h3, h4⟩ := wd_a h x.length (Nat.le_refl _)
    rw [Nat.add_zero]
    exact ⟨h1, by rw [h2]; simp [wiL], h3, h4⟩
  | succ k ih =>
    intro hk
    obtain ⟨i1, i2, i3, i4⟩ := ih (by omega)
    have hs := jd_1 h (i := k) (by omega)
    have hw := (jd_w1 h (i := k) (by omega)).1
    have hx : 1 ≤ x[k]?.getD default := jd_x h (i := k) (by omega)
    have hl := h.lo k (by omega)
    have w0 : Do.isW b 1 (x.length + k) := ⟨by rw [hs], by rw [hs, h.fnd, Int.toNat_natCast]; omega⟩
    have w1 : ¬ Do.isW b 0 (x.length + k) := fun q => by have := q.1; rw [hs] at this; cases this
    have hx2 : loI o k ≤ x[k]?.getD default ∧ x[k]?.getD default ≤ hiI o k := ⟨hl.2.1, hl.2.2.1⟩
    have hh : hitB b (x.length + k) = true := by
      unfold hitB
      rw [hs, h.fnd, Int.toNat_natCast]
      exact Do.within_iff.2 hx2
    rw [← Nat.add_assoc]
    refine ⟨?_, ?_, ?_, ?_⟩
    · rw [widK, if_neg w1, i1]
    · rw [widK, if_pos w0, i2, hw, Int.toNat_natCast, wiL_succ]
    · rw [rigK, if_neg (fun q => w1 q.1), i3]; rfl
    · rw [rigK, if_pos ⟨w0, hh⟩, i4]
theorem dN_12 (h : Jd t o x b) : dN b = 12 := by unfold dN; rw [h.dep]; rfl
theorem cha_0 (h : Jd t o x b) : chcN (dN b) (wids b 0) (rig b 0) = low (prodN (wiL t x.length)) (12 ^ x.length) := by
  obtain ⟨h1, h2, h3, h4⟩ := wd_b h x.length (Nat.le_refl _)
  unfold wids rig
  rw [jd_len h, h1, h3, dN_12 h]
  have := tS_last 12 (wiL t x.length)
  rw [wiL_len] at this
  unfold tS at this
  unfold chcN
  rw [this, wiL_len]
theorem cha_1 (h : Jd t o x b) : chcN (dN b) (wids b 1) (rig b 1) = low (prodN (wiL o x.length)) (12 ^ x.length) := by
  obtain ⟨h1, h2, h3, h4⟩ := wd_b h x.length (Nat.le_refl _)
  unfold wids rig
  rw [jd_len h, h2, h4, dN_12 h]
  have := tS_last 12 (wiL o x.length)
  rw [wiL_len] at this
  unfold tS at this
  unfold chcN
  rw [this, wiL_len]
theorem prod_bd (h : Jd t o x b) : ∀ k, k ≤ x.length → 1 ≤ prodN (wiL o k) ∧ prodN (wiL o k) ≤ prodN (wiL t k) ∧ prodN (wiL t k) ≤ 12 ^ k := by
  intro k
  induction k with
  | zero => intro _; simp [wiL, prodN]
  | succ k ih =>
    intro hk
    obtain ⟨i1, i2, i3⟩ := ih (by omega)
    have a1 := jd_w0 h (i := k) (by omega)
    have a2 := jd_w1 h (i := k) (by omega)
    rw [wiL_succ, wiL_succ, prodN_snoc, prodN_snoc, Nat.pow_succ]
    exact ⟨Nat.mul_pos i1 a2.2.1, Nat.mul_le_mul i2 a2.2.2, Nat.mul_le_mul i3 a1.2.2⟩
theorem pow_bd (h : Jd t o x b) {k : Nat} (hk : k ≤ x.length) : 1 ≤ 12 ^ k ∧ 12 ^ k ≤ 2985984 := ⟨Nat.pow_pos (by decide), pow6 (Nat.le_refl _) (by have := h.w6; omega)⟩

/-- The chance of who knows more. -/
theorem low_bd (h : Jd t o x b) {p q : Pr} (hp : p = low (prodN (wiL t x.length)) (12 ^ x.length)) (hq : q = low (prodN (wiL o x.length)) (12 ^ x.length)) :
    1 ≤ q.a ∧ q.a ≤ q.b ∧ q.b ≤ 2985984 ∧ q.a * p.b ≤ p.a * q.b ∧ 0 ≤ p.a ∧ p.a ≤ 2985984 ∧ 0 ≤ p.b ∧ p.b ≤ 2985984 := by
  obtain ⟨h1, h2, h3⟩ := prod_bd h x.length (Nat.le_refl _)
  obtain ⟨h4, h5⟩ := pow_bd h (Nat.le_refl x.length)
  generalize prodN (wiL t x.length) = A at *
  generalize prodN (wiL o x.length) = B at *
  generalize 12 ^ x.length = D at *
  have hA1 : 1 ≤ A := Nat.le_trans h1 h2
  have hc := low_cross (S := A) (S' := B) (A := D) (A' := D) (by omega) (by omega) (Nat.mul_le_mul_right D h2)
  rw [hp, hq]
  simp only [low]
  have g0 : 0 < Nat.gcd B D := Nat.gcd_pos_of_pos_right _ (by omega)
  have d1 : 0 < B / Nat.gcd B D := Nat.div_pos (Nat.le_of_dvd (by omega) (Nat.gcd_dvd_left _ _)) g0
  have d2 : B / Nat.gcd B D ≤ D / Nat.gcd B D := Nat.div_le_div_right (by omega)
  have d3 : D / Nat.gcd B D ≤ D := Nat.div_le_self _ _
  have d4 : A / Nat.gcd A D ≤ A := Nat.div_le_self _ _
  have d5 : D / Nat.gcd A D ≤ D := Nat.div_le_self _ _
  generalize A / Nat.gcd A D = a1 at *
  generalize D / Nat.gcd A D = a2 at *
  generalize B / Nat.gcd B D = a3 at *
  generalize D / Nat.gcd B D = a4 at *
  refine ⟨by omega, by omega, by omega, ?_, by omega, by omega, by omega, by omega⟩
  rw [← Int.natCast_mul, ← Int.natCast_mul]
  exact Int.ofNat_le.2 hc

/-- Nobody leads before them. -/
theorem leads_1 (h : Jd t o x b) : leadsI b 1 = 1 := by
  have hs : surelyB b 1 = true := (surely_iff h.bv (by decide)).2 fun u hu q hq => by
    have he : u = b.found := by
      apply List.ext_getElem
      · exact hu.len
      · intro i h1 h2
        have h3 := hu.ok i h2
        unfold okD at h3
        have hi : i < x.length := by rw [h.fnd] at h2; exact h2
        have h4 : 1 ≤ x[i]?.getD default := jd_x h hi
        rw [← h.fnd] at h4
        simp only [List.getElem?_eq_getElem h1, List.getElem?_eq_getElem h2, Option.getD_some] at h3 h4
        omega
    rw [he]
    have hd := h.dow
    have := (sc_le h x.length (Nat.le_refl _)).1
    have e1 := sco_0 h
    have e2 := sco_1 h
    rcases (show q = 0 ∨ q = 1 by omega) with rfl | rfl
    · show sco b 0 b.found ≤ sco b 1 b.found
      omega
    · exact Int.le_refl _
  unfold leadsI
  rw [hs]
  rfl

end Go.Proofs.Ytpangdaijhiohaa.Lv


/- What one says who knows what is left. -/
set_option linter.unusedSimpArgs false
set_option linter.unusedVariables false
set_option linter.unnecessarySimpa false
namespace Go.Proofs.Ytpangdaijhiohaa.Lv
open Go Go.V

theorem sayN_snoc (t : Tw) (d : Int) (n : Nat) : (sayN t d n).map Do.SY ++ [.agg [.int d, .int (n : Int), .int (loI t n), .int (hiI t n)]] = (sayN t d (n + 1)).map Do.SY := by
  rw [sayN_succ]
  simp

theorem c9 (t : Tw) (hv : Vt t) {l : List Int} (hl : Tr t l) (d : Int) : Ctr Try.prog 9 [TWN t, .int d] (.tup [.sl 4 ((sayN t d l.length).map Do.SY) .sh, .bool true]) := by
  refine ctr_of_wp Do.hmix Try.func9 m9i rfl ?_
  unfold v9i
  have hw6 := hv.w
  have hln := hl.len
  simp -failIfUnchanged (disch := first | omega | (simp <;> omega) | fail) only [go_sem, simprocAttr]
  refine wp_loop' Nat (fun i => ⟨[(1, .int d), (2, .ptr 6002 0), (6, .sl 4 ((sayN t d i).map Do.SY) (.own 6006)), (7, .int i)], [(6002, ⟨TC t, false⟩)], [(6006, i)], none⟩) (fun i => i ≤ l.length) (fun i => l.length - i) 0 (by simp) (by simp -failIfUnchanged (disch := first | omega | (simp <;> omega) | fail) only [go_sem, simprocAttr]; simp [sayN]) ?_
  intro i hi
  have hi : i ≤ l.length := hi
  simp -failIfUnchanged (disch := first | omega | (simp <;> omega) | fail) only [go_sem, simprocAttr]
  refine wcond_dec (fun hc => ?_) (fun hc => ?_)
  · have hlt : i < l.length := by omega
    have hlv := level_in hv hl hlt
    have k := c26 t hv hl i hlt
    have hsl := sayN_len t d i
    have hs := sayN_snoc t d i
    obtain ⟨lo, hlo⟩ : ∃ lo, loI t i = lo := ⟨_, rfl⟩
    obtain ⟨hi', hhi⟩ : ∃ hi', hiI t i = hi' := ⟨_, rfl⟩
    rw [hlo, hhi] at hlv k hs
    have g1 : decide (lo < 0) = false := decide_eq_false (by omega)
    have g2 : decide (hi' < lo) = false := decide_eq_false (by omega)
    simp -failIfUnchanged (disch := first | omega | (simp <;> omega) | fail) only [go_sem, simprocAttr]
    refine wcall k ?_
    simp -failIfUnchanged (disch := first | omega | (simp <;> omega) | fail) only [go_sem, simprocAttr, g1, g2]
    refine wcond_dec (fun h => ?_) (fun h => ?_)
    · omega
    simp -failIfUnchanged (disch := first | omega | (simp <;> omega) | fail) only [go_sem, simprocAttr, hsl]
    refine ⟨i + 1, by dsimp only; omega, by dsimp only; omega, ?_⟩
    dsimp only
    rw [← hs]
    simp -failIfUnchanged (disch := first | omega | (simp <;> omega) | fail) only [go_sem, simprocAttr]
    simp
  · obtain rfl : i = l.length := by omega
    simp -failIfUnchanged (disch := first | omega | (simp <;> omega) | fail) only [go_sem, simprocAttr]
    try simp

end Go.Proofs.Ytpangdaijhiohaa.Lv


/- TopJudged. -/
set_option linter.unusedSimpArgs false
set_option linter.unusedVariables false
set_option linter.unnecessarySimpa false
namespace Go.Proofs.Ytpangdaijhiohaa.Lv
open Go Go.V

abbrev ISx (x : List Int) : AV := .sl 1 (x.map .int) .sh

theorem far_0 {t : Tw} (h : farB t = false) (he : errT t = 0) : t.sn.length ≤ 40 ∧ t.sl.length ≤ 40 := by
  simp only [farB, Bool.or_eq_false_iff] at h
  exact huge_0 h.1

theorem c3 (t : Tw) (x : List Int) (s : Sn) : Ctr Try.prog 3 [TWN t, .agg [ISx x, .int s.w, .int s.lo, .int s.hi]] (.bool true) := by
  refine ctr_of_wp Do.hmix Try.func3 m3i rfl ?_
  unfold v3i
  simp -failIfUnchanged (disch := first | omega | (simp <;> omega) | fail) only [go_sem, simprocAttr]
  refine wcall (c4 t) ?_
  cases hf : farB t with
  | true =>
    simp -failIfUnchanged (disch := first | omega | (simp <;> omega) | fail) only [go_sem, simprocAttr]
    refine wcall c7 ?_
    simp -failIfUnchanged (disch := first | omega | (simp <;> omega) | fail) only [go_sem, simprocAttr]
  | false =>
  simp -failIfUnchanged (disch := first | omega | (simp <;> omega) | fail) only [go_sem, simprocAttr]
  refine wcall (c5 t) ?_
  by_cases he : errT t = 0
  case neg =>
    have g1 : decide (¬ errT t = 0) = true := decide_eq_true he
    simp -failIfUnchanged (disch := first | omega | (simp <;> omega) | fail) only [go_sem, simprocAttr, g1]
    refine wcall c7 ?_
    simp -failIfUnchanged (disch := first | omega | (simp <;> omega) | fail) only [go_sem, simprocAttr]
  have g1 : decide (¬ errT t = 0) = false := decide_eq_false (fun h => h he)
  have hv := err_0 he
  obtain ⟨n1, n2⟩ := far_0 hf he
  simp -failIfUnchanged (disch := first | omega | (simp <;> omega) | fail) only [go_sem, simprocAttr, g1]
  refine WGd_bool (fun g2 => ?_) (fun g2 => ?_)
  case refine_2 =>
    simp -failIfUnchanged (disch := first | omega | (simp <;> omega) | fail) only [go_sem, simprocAttr, g2]
    refine wcall c7 ?_
    simp -failIfUnchanged (disch := first | omega | (simp <;> omega) | fail) only [go_sem, simprocAttr]
  have g2' : ¬ (40 : Int) < (x.length : Int) := by simpa using g2
  simp -failIfUnchanged (disch := first | omega | (simp <;> omega) | fail) only [go_sem, simprocAttr, g2]
  refine wcall (c6 t hv x (by omega)) ?_
  cases htb : trB t x with
  | false =>
    simp -failIfUnchanged (disch := first | omega | (simp <;> omega) | fail) only [go_sem, simprocAttr]
    refine wcall c7 ?_
    simp -failIfUnchanged (disch := first | omega | (simp <;> omega) | fail) only [go_sem, simprocAttr]
  | true =>
  have hl := tr_iff.1 htb
  simp -failIfUnchanged (disch := first | omega | (simp <;> omega) | fail) only [go_sem, simprocAttr]
  refine wcall (c8 t n1 n2 s) ?_
  obtain ⟨o, ho⟩ : ∃ o : Tw, (⟨t.wells, t.sn ++ [s], t.sl⟩ : Tw) = o := ⟨_, rfl⟩
  have hoe : o.wells = t.wells := by rw [← ho]
  rw [ho]
  simp -failIfUnchanged (disch := first | omega | (simp <;> omega) | fail) only [go_sem, simprocAttr]
  refine wcall (c4 o) ?_
  cases hfo : farB o with
  | true =>
    simp -failIfUnchanged (disch := first | omega | (simp <;> omega) | fail) only [go_sem, simprocAttr]
    refine wcall c7 ?_
    simp -failIfUnchanged (disch := first | omega | (simp <;> omega) | fail) only [go_sem, simprocAttr]
  | false =>
  simp -failIfUnchanged (disch := first | omega | (simp <;> omega) | fail) only [go_sem, simprocAttr]
  refine wcall (c5 o) ?_
  by_cases heo : errT o = 0
  case neg =>
    have g1 : decide (¬ errT o = 0) = true := decide_eq_true heo
    simp -failIfUnchanged (disch := first | omega | (simp <;> omega) | fail) only [go_sem, simprocAttr, g1]
    refine wcall c7 ?_
    simp -failIfUnchanged (disch := first | omega | (simp <;> omega) | fail) only [go_sem, simprocAttr]
  have g3 : decide (¬ errT o = 0) = false := decide_eq_false (fun h => h heo)
  have hvo := err_0 heo
  simp -failIfUnchanged (disch := first | omega | (simp <;> omega) | fail) only [go_sem, simprocAttr, g3]
  refine wcall (c6 o hvo x (by omega)) ?_
  cases htbo : trB o x with
  | false =>
    simp -failIfUnchanged (disch := first | omega | (simp <;> omega) | fail) only [go_sem, simprocAttr]
    refine wcall c7 ?_
    simp -failIfUnchanged (disch := first | omega | (simp <;> omega) | fail) only [go_sem, simprocAttr]
  | true =>
  have hlo := tr_iff.1 htbo
  have hw6 := hv.w
  have hln := hl.len
  simp -failIfUnchanged (disch := first | omega | (simp <;> omega) | fail) only [go_sem, simprocAttr]
  refine wcall_in Do.hmix Try.func9 m9i rfl ?_
  unfold v9i
  simp -failIfUnchanged (disch := first | omega | (simp <;> omega) | fail) only [go_sem, simprocAttr]
  refine wp_loopY Nat (fun i => ⟨[(1, .int 0), (2, .ptr 6002 0), (6, .sl 4 ((sayN t 0 i).map Do.SY) (.own 6006)), (7, .int i)], [(6002, ⟨TC t, false⟩), (5, ⟨TC o, false⟩), (3, ⟨[ISx x, .int s.w, .int s.lo, .int s.hi], false⟩), (2, ⟨TC t, false⟩)], [(6006, i)], none⟩) (fun i => i ≤ x.length) (fun i => x.length - i) 0 (by simp) (by simp -failIfUnchanged (disch := first | omega | (simp <;> omega) | fail) only [go_sem, simprocAttr]; simp [sayN]) (fun _ => by simp -failIfUnchanged (disch := first | omega | (simp <;> omega) | fail) only [go_sem, simprocAttr]) ?_
  intro i hi
  have hi : i ≤ x.length := hi
  simp -failIfUnchanged (disch := first | omega | (simp <;> omega) | fail) only [go_sem, simprocAttr]
  refine wcond_dec (fun hc => ?_) (fun hc => ?_)
  · have hlt : i < x.length := by omega
    have hlv := level_in hv hl hlt
    have k := c26 t hv hl i hlt
    have hsl := sayN_len t 0 i
    have hs := sayN_snoc t 0 i
    obtain ⟨lo, hlo⟩ : ∃ lo, loI t i = lo := ⟨_, rfl⟩
    obtain ⟨hi', hhi⟩ : ∃ hi', hiI t i = hi' := ⟨_, rfl⟩
    rw [hlo, hhi] at hlv k hs
    have g1 : decide (lo < 0) = false := decide_eq_false (by omega)
    have g2 : decide (hi' < lo) = false := decide_eq_false (by omega)
    simp -failIfUnchanged (disch := first | omega | (simp <;> omega) | fail) only [go_sem, simprocAttr]
    refine wcall k ?_
    simp -failIfUnchanged (disch := first | omega | (simp <;> omega) | fail) only [go_sem, simprocAttr, g1, g2]
    refine wcond_dec (fun h => ?_) (fun h => ?_)
    · omega
    simp -failIfUnchanged (disch := first | omega | (simp <;> omega) | fail) only [go_sem, simprocAttr, hsl]
    refine lpy_norm (fun _ => by simp -failIfUnchanged (disch := first | omega | (simp <;> omega) | fail) only [go_sem, simprocAttr]) ⟨i + 1, by omega, by omega, ?_⟩
    rw [← hs]
    simp -failIfUnchanged (disch := first | omega | (simp <;> omega) | fail) only [go_sem, simprocAttr]
    simp
  obtain rfl : i = x.length := by omega
  simp -failIfUnchanged (disch := first | omega | (simp <;> omega) | fail) only [go_sem, simprocAttr]
  refine .inr ⟨rfl, rfl, ?_⟩
  have hsl0 := sayN_len t 0 x.length
  have hsl1 := sayN_len o 1 x.length
  simp -failIfUnchanged (disch := first | omega | (simp <;> omega) | fail) only [go_sem, simprocAttr, hsl0, hsl1]
  refine wcall (c9 o hvo hlo 1) ?_
  simp -failIfUnchanged (disch := first | omega | (simp <;> omega) | fail) only [go_sem, simprocAttr, hsl0, hsl1]
  obtain ⟨A, hA⟩ : ∃ A, sayN t 0 x.length = A := ⟨_, rfl⟩
  obtain ⟨S, hS⟩ : ∃ S, sayN t 0 x.length ++ sayN o 1 x.length = S := ⟨_, rfl⟩
  have hSm : List.map Do.SY (sayN t 0 x.length) ++ List.map Do.SY (sayN o 1 x.length) = List.map Do.SY S := by rw [← hS, List.map_append]
  have hSl : S.length = x.length + x.length := by rw [← hS, List.length_append, hsl0, hsl1]
  rw [hSm, hA]
  have hn : (⟨12, x, 2, S, 0⟩ : Do.Bk).say.length < 4294967296 := by
    show S.length < _
    omega
  have k10 := Do.c10 ⟨12, x, 2, S, 0⟩ hn
  refine wcall k10 ?_
  by_cases heb : Do.errB ⟨12, x, 2, S, 0⟩ = 0
  case neg =>
    have g1 : decide (¬ Do.errB ⟨12, x, 2, S, 0⟩ = 0) = true := decide_eq_true heb
    simp -failIfUnchanged (disch := first | omega | (simp <;> omega) | fail) only [go_sem, simprocAttr, g1]
    refine wcall c7 ?_
    simp -failIfUnchanged (disch := first | omega | (simp <;> omega) | fail) only [go_sem, simprocAttr]
  have g5 : decide (¬ Do.errB ⟨12, x, 2, S, 0⟩ = 0) = false := decide_eq_false (fun h => h heb)
  have hck : Do.checkB ⟨12, x, 2, S, 0⟩ = true := by
    unfold Do.errB at heb
    cases h : Do.checkB ⟨12, x, 2, S, 0⟩ with
    | true => rfl
    | false => rw [h] at heb; exact absurd heb (by decide)
  have hJ : Jd t o x ⟨12, x, 2, S, 0⟩ := ⟨by omega, hS.symm, rfl, rfl, rfl, Do.bv_of hck, hck, fun i hi => level_in hv hl hi, fun i hi => by
    have h1 := level_in hvo hlo hi
    have h2 := level_more hv (ho ▸ hvo) (ho ▸ hlo) hl hi
    rw [ho] at h2
    exact ⟨h2.1, h1.2.1, h1.2.2.1, h2.2⟩⟩
  simp -failIfUnchanged (disch := first | omega | (simp <;> omega) | fail) only [go_sem, simprocAttr, g5]
  obtain ⟨b, hb⟩ : ∃ b : Do.Bk, (⟨12, x, 2, S, 0⟩ : Do.Bk) = b := ⟨_, rfl⟩
  have hDB : Do.DB b = .agg [.int 12, ISx x, .int 2, .sl 4 (S.map Do.SY) .sh, .int 0] := by rw [← hb]
  rw [hb] at hJ hn hck
  have hlS : b.say.length = x.length + x.length := jd_len hJ
  have hsE : ∀ j : Nat, j < x.length + x.length → Do.sE b j = 0 := fun j hj => by
    unfold Do.sE Do.askE
    rw [hck, Do.within_iff.2 (by omega)]
    rfl
  have hAl : A.length = x.length := by rw [← hA]; exact hsl0
  refine wp_loop' Nat (fun i => ⟨[(2, .ptr 2 0), (6, .sl 4 (A.map Do.SY) .sh), (10, .ptr 10 0), (11, .int (scS t i)), (12, .int (Do.prodN (wiL t i) : Nat)), (13, .int (12 ^ i : Nat)), (14, .int i)], [(10, ⟨[.int 12, ISx x, .int 2, .sl 4 (S.map Do.SY) .sh, .int 0], false⟩), (2, ⟨TC t, false⟩)], [], none⟩) (fun i => i ≤ x.length) (fun i => x.length - i) 0 (by simp) (by simp -failIfUnchanged (disch := first | omega | (simp <;> omega) | fail) only [go_sem, simprocAttr]; simp [wiL, Do.prodN, scS, leTk, leV]) ?_
  intro i hi
  have hi : i ≤ x.length := hi
  simp -failIfUnchanged (disch := first | omega | (simp <;> omega) | fail) only [go_sem, simprocAttr]
  refine wcond_dec (fun hc => ?_) (fun hc => ?_)
  · have hlt : i < x.length := by omega
    have k1 := Do.c11 b hn (i : Nat)
    have k2 := Do.c11 b hn (x.length + i : Nat)
    have r1 : Do.hitR b (i : Nat) = .tup [.int 1, .int 0] := by
      unfold Do.hitR
      rw [hsE i (by omega), if_pos rfl, Int.toNat_natCast, jd_h0 hJ hlt]
    have r2 : Do.hitR b (x.length + i : Nat) = .tup [.int 1, .int 0] := by
      unfold Do.hitR
      rw [hsE (x.length + i) (by omega), if_pos rfl, Int.toNat_natCast, jd_h1 hJ hlt]
    rw [r1, hDB] at k1
    rw [r2, hDB] at k2
    have hwi : t.wells + (i : Int) = ((x.length + i : Nat) : Int) := by omega
    have hAi : A[i]?.getD default = ⟨0, (i : Int), loI t i, hiI t i⟩ := by rw [← hA]; exact sayN_at t 0 hlt
    have hwd := jd_w0 hJ hlt
    rw [jd_0 hJ hlt] at hwd
    obtain ⟨w, hw⟩ : ∃ w, wt t i = w := ⟨_, rfl⟩
    have hsb := sc_le hJ i hi
    have hpb := prod_bd hJ i hi
    have hpw := pow_bd hJ hi
    have hs1 : scS t (i + 1) = scS t i + (12 - (w : Int)) := by rw [← hw]; rfl
    have hs2 : Do.prodN (wiL t (i + 1)) = Do.prodN (wiL t i) * w := by rw [wiL_succ, Do.prodN_snoc, hw]
    have hs3 : 12 ^ (i + 1) = 12 ^ i * 12 := Nat.pow_succ ..
    rw [hw] at hwd
    simp -failIfUnchanged (disch := first | omega | (simp <;> omega) | fail) only [go_sem, simprocAttr]
    refine wcall k1 ?_
    simp -failIfUnchanged (disch := first | omega | (simp <;> omega) | fail) only [go_sem, simprocAttr, hwi]
    refine wcall k2 ?_
    simp -failIfUnchanged (disch := first | omega | (simp <;> omega) | fail) only [go_sem, simprocAttr, hAi]
    refine wcall (Do.c12 ⟨0, (i : Int), loI t i, hiI t i⟩) ?_
    rw [hwd.1]
    obtain ⟨P, hP⟩ : ∃ P, Do.prodN (wiL t i) = P := ⟨_, rfl⟩
    obtain ⟨Q, hQ⟩ : ∃ Q, 12 ^ i = Q := ⟨_, rfl⟩
    obtain ⟨sc, hsc⟩ : ∃ sc, scS t i = sc := ⟨_, rfl⟩
    rw [hP] at hs2 hpb
    rw [hQ] at hs3 hpb hpw
    rw [hsc] at hs1 hsb
    rw [hP, hQ, hsc]
    have m1 : P * w ≤ 2985984 * 12 := Nat.mul_le_mul (by omega) hwd.2.2
    have e1 : w64 ((P : Int) * (w : Int)) = ((P * w : Nat) : Int) := by rw [← Int.natCast_mul]; exact w64_id (by omega)
    have e2 : w64 ((Q : Int) * 12) = ((Q * 12 : Nat) : Int) := by rw [w64_id (by omega)]; omega
    simp -failIfUnchanged (disch := first | omega | (simp <;> omega) | fail) only [go_sem, simprocAttr, e1, e2]
    refine ⟨i + 1, by dsimp only; omega, by dsimp only; omega, ?_⟩
    dsimp only
    rw [hs1, hs2, hs3]
    simp -failIfUnchanged (disch := first | omega | (simp <;> omega) | fail) only [go_sem, simprocAttr]
    try simp
    try omega
  obtain rfl : i = x.length := by omega
  obtain ⟨p, hp⟩ : ∃ p, Do.low (Do.prodN (wiL t x.length)) (12 ^ x.length) = p := ⟨_, rfl⟩
  obtain ⟨q, hq⟩ : ∃ q, Do.low (Do.prodN (wiL o x.length)) (12 ^ x.length) = q := ⟨_, rfl⟩
  obtain ⟨q1, q2, q3, q4, q5, q6, q7, q8⟩ := low_bd hJ hp.symm hq.symm
  have hpb := prod_bd hJ x.length (Nat.le_refl _)
  have hpw := pow_bd hJ (Nat.le_refl x.length)
  have hdE : ∀ d : Int, d = 0 ∨ d = 1 → Do.dE b d = 0 := fun d hd => by
    unfold Do.dE Do.askE
    have hw : Do.within d 0 (w64 (b.dow - 1)) = true := by
      rw [hJ.dow, w64_id (by decide)]
      exact Do.within_iff.2 (by omega)
    rw [hck, hw]
    rfl
  have k13 := Do.c13 b hn 0
  have k13b := Do.c13 b hn 1
  have k14 := Do.c14 b hn 0
  have k14b := Do.c14 b hn 1
  have k15 := Do.c15 b hn 1
  have k16 := Do.c16 (Do.prodN (wiL t x.length)) (12 ^ x.length) (by omega) (by omega) (by omega)
  have r13 : Do.scoR b 0 = .tup [.int (scS t x.length), .int 0] := by unfold Do.scoR; rw [hdE 0 (.inl rfl), if_pos rfl, sco_0 hJ]
  have r13b : Do.scoR b 1 = .tup [.int (scS o x.length), .int 0] := by unfold Do.scoR; rw [hdE 1 (.inr rfl), if_pos rfl, sco_1 hJ]
  have r14 : Do.chaR b 0 = .tup [.agg [.int p.a, .int p.b], .int 0] := by unfold Do.chaR; rw [hdE 0 (.inl rfl), if_pos rfl, cha_0 hJ, hp]
  have r14b : Do.chaR b 1 = .tup [.agg [.int q.a, .int q.b], .int 0] := by unfold Do.chaR; rw [hdE 1 (.inr rfl), if_pos rfl, cha_1 hJ, hq]
  have r15 : Do.leaR b 1 = .tup [.int 1, .int 0] := by
    unfold Do.leaR
    have := hdE 1 (.inr rfl)
    unfold Do.dE at this
    dsimp only
    rw [this, if_pos rfl]
    show AV.tup [.int (Do.leadsI b 1), .int 0] = _
    rw [leads_1 hJ]
  rw [r13, hDB] at k13
  rw [r13b, hDB] at k13b
  rw [r14, hDB] at k14
  rw [r14b, hDB] at k14b
  rw [r15, hDB] at k15
  rw [hp] at k16
  have hsc := sc_le hJ x.length (Nat.le_refl _)
  obtain ⟨P, hP⟩ : ∃ P, Do.prodN (wiL t x.length) = P := ⟨_, rfl⟩
  obtain ⟨D, hD⟩ : ∃ D, 12 ^ x.length = D := ⟨_, rfl⟩
  obtain ⟨s0, hs0⟩ : ∃ s0, scS t x.length = s0 := ⟨_, rfl⟩
  obtain ⟨s1, hs1⟩ : ∃ s1, scS o x.length = s1 := ⟨_, rfl⟩
  rw [hP, hD] at k16
  rw [hs0] at k13
  rw [hs1] at k13b
  rw [hs0, hs1] at hsc
  rw [hP, hD, hs0]
  have g6 : decide (s1 < s0) = false := decide_eq_false (by omega)
  have g7 : decide (1 ≤ q.a) = true := decide_eq_true q1
  have g8 : decide (q.a ≤ q.b) = true := decide_eq_true q2
  have g9 : decide (q.b ≤ 33554432) = true := decide_eq_true (by omega)
  have b1 : 0 ≤ q.a * p.b ∧ q.a * p.b ≤ 2985984 * 2985984 := ⟨Int.mul_nonneg (by omega) (by omega), Int.mul_le_mul (by omega) (by omega) (by omega) (by decide)⟩
  have b2 : 0 ≤ p.a * q.b ∧ p.a * q.b ≤ 2985984 * 2985984 := ⟨Int.mul_nonneg (by omega) (by omega), Int.mul_le_mul (by omega) (by omega) (by omega) (by decide)⟩
  have w1 : w64 (q.a * p.b) = q.a * p.b := w64_id (by omega)
  have w2 : w64 (p.a * q.b) = p.a * q.b := w64_id (by omega)
  have g10 : decide (q.a * p.b ≤ p.a * q.b) = true := decide_eq_true q4
  simp -failIfUnchanged (disch := first | omega | (simp <;> omega) | fail) only [go_sem, simprocAttr]
  refine wcall k13 ?_
  simp -failIfUnchanged (disch := first | omega | (simp <;> omega) | fail) only [go_sem, simprocAttr]
  refine wcall k13b ?_
  simp -failIfUnchanged (disch := first | omega | (simp <;> omega) | fail) only [go_sem, simprocAttr]
  refine wcall k14 ?_
  simp -failIfUnchanged (disch := first | omega | (simp <;> omega) | fail) only [go_sem, simprocAttr]
  refine wcall k14b ?_
  simp -failIfUnchanged (disch := first | omega | (simp <;> omega) | fail) only [go_sem, simprocAttr]
  refine wcall k15 ?_
  simp -failIfUnchanged (disch := first | omega | (simp <;> omega) | fail) only [go_sem, simprocAttr, g6]
  refine wcall k16 ?_
  simp -failIfUnchanged (disch := first | omega | (simp <;> omega) | fail) only [go_sem, simprocAttr, g6, g7, g8, g9, w1, w2, g10]
  refine wcall c7 ?_
  simp -failIfUnchanged (disch := first | omega | (simp <;> omega) | fail) only [go_sem, simprocAttr]
  try simp

end Go.Proofs.Ytpangdaijhiohaa.Lv


/- The row's arguments. -/
set_option linter.unusedSimpArgs false
set_option linter.unusedVariables false
set_option linter.unnecessarySimpa false
namespace Go.Proofs.Ytpangdaijhiohaa.Lv
open Go Go.V

theorem map_choose {α β γ : Type} {F : α → γ} {G : β → γ} : ∀ (es : List α), (∀ x ∈ es, ∃ s, F x = G s) → ∃ l : List β, es.map F = l.map G
  | [], _ => ⟨[], rfl⟩
  | x :: r, h => by
    obtain ⟨s, h1⟩ := h x (by simp)
    obtain ⟨l, h3⟩ := map_choose r fun y hy => h y (by simp [hy])
    exact ⟨s :: l, by simp [h1, h3]⟩
theorem ty_is {cs : List AV} (h : Ty (.sl .int) cs) : ∃ l : List Int, cs = [ISx l] := by
  rw [Ty] at h
  obtain ⟨es, rfl, h1, h2⟩ := h
  obtain ⟨l, h3⟩ := map_choose (F := fun x => if TC.isSt .int then AV.agg x else x[0]?.getD .und) (G := AV.int) es (fun x hx => by
    have := h2 x hx
    rw [Ty] at this
    obtain ⟨n, _, rfl⟩ := this
    exact ⟨n, rfl⟩)
  refine ⟨l, ?_⟩
  rw [h3]
  rfl
theorem ty_sn {cs : List AV} (h : Ty (.sl (.st [.int, .int, .int])) cs) : ∃ l : List Sn, cs = [.sl 3 (l.map SN) .sh] := by
  rw [Ty] at h
  obtain ⟨es, rfl, h1, h2⟩ := h
  obtain ⟨l, h3⟩ := map_choose (F := fun x => if TC.isSt (.st [.int, .int, .int]) then AV.agg x else x[0]?.getD .und) (G := SN) es (fun x hx => by
    have := h2 x hx
    rw [Ty] at this
    simp only [TyL] at this
    obtain ⟨a, r, rfl, ha, b, r2, rfl, hb, c, r3, rfl, hc, rfl⟩ := this
    rw [Ty] at ha hb hc
    obtain ⟨n, _, rfl⟩ := ha
    obtain ⟨m, _, rfl⟩ := hb
    obtain ⟨k, _, rfl⟩ := hc
    exact ⟨⟨n, m, k⟩, rfl⟩)
  refine ⟨l, ?_⟩
  rw [h3]
  rfl
theorem ty_sl {cs : List AV} (h : Ty (.sl (.st [.int, .int, .int, .int])) cs) : ∃ l : List Sl, cs = [.sl 4 (l.map SLP) .sh] := by
  rw [Ty] at h
  obtain ⟨es, rfl, h1, h2⟩ := h
  obtain ⟨l, h3⟩ := map_choose (F := fun x => if TC.isSt (.st [.int, .int, .int, .int]) then AV.agg x else x[0]?.getD .und) (G := SLP) es (fun x hx => by
    have := h2 x hx
    rw [Ty] at this
    simp only [TyL] at this
    obtain ⟨a, r, rfl, ha, b, r2, rfl, hb, c, r3, rfl, hc, d, r4, rfl, hd, rfl⟩ := this
    rw [Ty] at ha hb hc hd
    obtain ⟨n, _, rfl⟩ := ha
    obtain ⟨m, _, rfl⟩ := hb
    obtain ⟨k, _, rfl⟩ := hc
    obtain ⟨j, _, rfl⟩ := hd
    exact ⟨⟨n, m, k, j⟩, rfl⟩)
  refine ⟨l, ?_⟩
  rw [h3]
  rfl
abbrev tcT : V.TC := .st [.int, .sl (.st [.int, .int, .int]), .sl (.st [.int, .int, .int, .int])]
theorem ty_tw {av : AV} (h : TyV tcT av) : ∃ t : Tw, av = TWN t := by
  obtain ⟨cs, rfl, h⟩ := h
  simp only [TyL] at h
  obtain ⟨a, x, rfl, ha, b, y, rfl, hb, c, z, rfl, hc, rfl⟩ := h
  rw [Ty] at ha
  obtain ⟨n, _, rfl⟩ := ha
  obtain ⟨l, rfl⟩ := ty_sn hb
  obtain ⟨k, rfl⟩ := ty_sl hc
  exact ⟨⟨n, l, k⟩, rfl⟩
theorem ty_jd {av : AV} (h : TyV (.st [.sl .int, .st [.int, .int, .int]]) av) : ∃ (x : List Int) (s : Sn), av = .agg [ISx x, .int s.w, .int s.lo, .int s.hi] := by
  obtain ⟨cs, rfl, h⟩ := h
  simp only [TyL] at h
  obtain ⟨a, x, rfl, ha, b, y, rfl, hb, rfl⟩ := h
  obtain ⟨l, rfl⟩ := ty_is ha
  rw [Ty] at hb
  simp only [TyL] at hb
  obtain ⟨a, x, rfl, ha, b, y, rfl, hb, c, z, rfl, hc, rfl⟩ := hb
  rw [Ty] at ha hb hc
  obtain ⟨n, _, rfl⟩ := ha
  obtain ⟨m, _, rfl⟩ := hb
  obtain ⟨k, _, rfl⟩ := hc
  exact ⟨l, ⟨n, m, k⟩, rfl⟩

end Go.Proofs.Ytpangdaijhiohaa.Lv

namespace Go.Proofs.Ytpangdaijhiohaa
open Go Go.V
theorem laidOutP : laidOutB Try.prog = true := by kernel_rfl
end Go.Proofs.Ytpangdaijhiohaa

