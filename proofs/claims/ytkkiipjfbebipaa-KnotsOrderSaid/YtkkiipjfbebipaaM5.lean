/- Merged by program: T29, T30, T31, T32, T33, T34, T34b, T35, T36, T37, T38, T39, T40, T41, T42, T43, T44, T45, T46, T47, T48, T49, T50, T51a, T52, T53, T54, T55, T56. -/
import Derived.Test.YtkkiipjfbebipaaM4
import Derived.Test.YtkkiipjfbebipaaChecked
/- Plain law 2: what the sums of a loom stand for. -/
set_option linter.unusedSimpArgs false
set_option linter.unusedVariables false
set_option linter.unnecessarySimpa false
namespace Go.Proofs.Ytkkiipjfbebipaa
open Go Go.V

abbrev at0 (s : List Wy) (n : Nat) : Wy := s[n]?.getD default

/-- The sums stand for a list of ways: a sum and a cost each. -/
structure Sem (s : List Wy) (L : List (Nat × Int)) : Prop where
  r : ∀ n, n < 51 → (at0 s n).r = ((sumF L fun e => if e.1 = n ∧ e.2 = 0 then 1 else 0 : Nat) : Int)
  lo : ∀ n, n < 51 → ∀ e ∈ L, e.1 = n → (at0 s n).k ≤ e.2
  ex : ∀ n, n < 51 → (at0 s n).k = 1048576 ∨ ∃ e ∈ L, e.1 = n ∧ e.2 = (at0 s n).k

theorem at0_set (s : List Wy) (i j : Nat) (w : Wy) (h : s.length = 51) (hi : i < 51) : at0 (s.set i w) j = if i = j then w else at0 s j := by
  unfold at0
  rw [List.getElem?_set]
  by_cases e : i = j
  · subst e
    simp [h, hi]
  · rw [if_neg e, if_neg e]

theorem addD_len (d : Nat) (cost : Int) (s : List Wy) : ∀ (m : Nat) (out : List Wy), ((List.range m).foldl (addN d cost s) out).length = out.length
  | 0, _ => rfl
  | m + 1, out => by
    rw [List.range_succ, List.foldl_append]
    simp only [List.foldl_cons, List.foldl_nil, addN, List.length_set]
    exact addD_len d cost s m out

theorem addD_at (d : Nat) (cost : Int) (s out : List Wy) (ho : out.length = 51) (j : Nat) : ∀ m, m + d ≤ 51 → at0 ((List.range m).foldl (addN d cost s) out) j =
    if d ≤ j ∧ j < d + m then ⟨min (at0 out j).k ((at0 s (j - d)).k + cost), if cost = 0 then w64 ((at0 out j).r + (at0 s (j - d)).r) else (at0 out j).r⟩ else at0 out j
  | 0, _ => by rw [if_neg (by omega)]; rfl
  | m + 1, h => by
    have ih := fun j => addD_at d cost s out ho j m (by omega)
    rw [List.range_succ, List.foldl_append]
    simp only [List.foldl_cons, List.foldl_nil]
    rw [addN, at0_set _ _ _ _ (by rw [addD_len]; exact ho) (by omega)]
    by_cases e : m + d = j
    · rw [if_pos e, if_pos (show d ≤ j ∧ j < d + (m + 1) by omega)]
      have hm : at0 ((List.range m).foldl (addN d cost s) out) (m + d) = at0 out (m + d) := by rw [ih, if_neg (by omega)]
      simp only [at0] at hm
      rw [hm]
      subst e
      rw [Nat.add_sub_cancel]
    · rw [if_neg e, ih j]
      by_cases h2 : d ≤ j ∧ j < d + m
      · rw [if_pos h2, if_pos (show d ≤ j ∧ j < d + (m + 1) by omega)]
      · rw [if_neg h2, if_neg (show ¬ (d ≤ j ∧ j < d + (m + 1)) by omega)]

theorem sem_addD {d : Nat} {cost : Int} {s out : List Wy} {Ls Lo : List (Nat × Int)} (hs : Sem s Ls) (ho : Sem out Lo) (okS : Okw s) (okO : Okw out) (hc : 0 ≤ cost)
    (hb : ∀ e ∈ Ls, e.1 + d < 51 ∧ 0 ≤ e.2) (hd : d ≤ 51) (hl : Lo.length + Ls.length < 9223372036854775807) : Sem (addD d cost s out) (Lo ++ Ls.map fun e => (e.1 + d, e.2 + cost)) := by
  have hat := fun j => addD_at d cost s out okO.len j (51 - d) (by omega)
  have hcnt : ∀ (L : List (Nat × Int)) (n : Nat), (sumF L fun e => if e.1 = n ∧ e.2 = 0 then 1 else 0) ≤ L.length := by
    intro L n
    rw [← sumF_len]
    exact sumF_le fun e _ => by split <;> omega
  refine ⟨fun n hn => ?_, fun n hn e he h1 => ?_, fun n hn => ?_⟩
  · rw [addD, hat, sumF_append, sumF_map]
    by_cases h : d ≤ n
    · rw [if_pos (by omega)]
      have e1 : (sumF Ls fun a => if a.1 + d = n ∧ a.2 + cost = 0 then 1 else 0) = if cost = 0 then (sumF Ls fun e => if e.1 = n - d ∧ e.2 = 0 then 1 else 0) else 0 := by
        by_cases hz : cost = 0
        · rw [if_pos hz]
          refine sumF_congr fun a ha => ?_
          have := hb a ha
          by_cases q : a.1 = n - d ∧ a.2 = 0
          · rw [if_pos q, if_pos (by omega)]
          · rw [if_neg q, if_neg (by omega)]
        · rw [if_neg hz]
          refine Eq.trans (sumF_congr (g := fun _ => 0) fun a ha => ?_) (sumF_zero Ls)
          have := hb a ha
          rw [if_neg (by omega)]
      rw [e1]
      by_cases hz : cost = 0
      · simp only [if_pos hz]
        rw [ho.r n hn, hs.r (n - d) (by omega)]
        have := hcnt Lo n
        have := hcnt Ls (n - d)
        rw [w64_id (by omega)]
        omega
      · simp only [if_neg hz]
        rw [ho.r n hn]
        omega
    · rw [if_neg (by omega), ho.r n hn]
      have : (sumF Ls fun a => if a.1 + d = n ∧ a.2 + cost = 0 then 1 else 0) = 0 := by
        refine Eq.trans (sumF_congr (g := fun _ => 0) fun a ha => ?_) (sumF_zero Ls)
        rw [if_neg (by omega)]
      rw [this, Nat.add_zero]
  · rw [addD, hat]
    rcases List.mem_append.1 he with he | he
    · have := ho.lo n hn e he h1
      split
      · dsimp only; omega
      · exact this
    · obtain ⟨a, ha, rfl⟩ := List.mem_map.1 he
      dsimp only at h1 ⊢
      have := hs.lo (n - d) (by omega) a ha (by omega)
      rw [if_pos (by omega)]
      dsimp only
      omega
  · rw [addD, hat]
    split
    · rename_i hh
      dsimp only
      by_cases hle : (at0 out n).k ≤ (at0 s (n - d)).k + cost
      · rw [Int.min_eq_left hle]
        rcases ho.ex n hn with h | ⟨e, h1, h2, h3⟩
        · exact .inl h
        · exact .inr ⟨e, by simp [h1], h2, h3⟩
      · rw [Int.min_eq_right (by omega)]
        have hk := okO.k1 n hn
        rcases hs.ex (n - d) (by omega) with h | ⟨e, h1, h2, h3⟩
        · have h' : (s[n - d]?.getD default).k = 1048576 := h
          simp only [at0] at hle h hk
          omega
        · exact .inr ⟨(e.1 + d, e.2 + cost), by simp only [List.mem_append, List.mem_map]; exact .inr ⟨e, h1, rfl⟩, by dsimp only; omega, by dsimp only; omega⟩
    · rcases ho.ex n hn with h | ⟨e, h1, h2, h3⟩
      · exact .inl h
      · exact .inr ⟨e, by simp [h1], h2, h3⟩

/-- No way. -/
theorem sem_none : Sem ((emptyL 0).set 0 ⟨1048576, 0⟩) [] := by
  have hl : (emptyL 0).length = 51 := by simp [emptyL]
  have key : ∀ n, n < 51 → at0 ((emptyL 0).set 0 ⟨1048576, 0⟩) n = ⟨1048576, 0⟩ := by
    intro n hn
    rw [at0_set _ _ _ _ hl (by omega)]
    by_cases h : 0 = n
    · rw [if_pos h]
    · rw [if_neg h]
      simp only [at0, emptyL, List.getElem?_set, List.getElem?_replicate, List.length_replicate]
      rw [if_neg (by omega)]
      simp [hn]
  refine ⟨fun n hn => by rw [key n hn]; rfl, fun n hn e he => by simp at he, fun n hn => .inl (by rw [key n hn])⟩

/-- One way, of the sum 0. -/
theorem sem_one : Sem (emptyL 0) [(0, 0)] := by
  have key : ∀ n, n < 51 → at0 (emptyL 0) n = if n = 0 then ⟨0, 1⟩ else ⟨1048576, 0⟩ := by
    intro n hn
    simp only [at0, emptyL, List.getElem?_set, List.getElem?_replicate, List.length_replicate]
    by_cases h : n = 0
    · subst h; rfl
    · rw [if_neg (by omega), if_neg h]
      simp [hn]
  refine ⟨fun n hn => ?_, fun n hn e he h1 => ?_, fun n hn => ?_⟩
  · rw [key n hn, sumF_cons, sumF_nil]
    by_cases h : n = 0
    · subst h; rfl
    · rw [if_neg h, if_neg (by simp; omega)]; rfl
  · simp only [List.mem_singleton] at he
    subst he
    rw [key n hn, if_pos (by simp at h1; omega)]
    simp
  · rw [key n hn]
    by_cases h : n = 0
    · exact .inr ⟨(0, 0), by simp, by simp [h], by simp [h]⟩
    · rw [if_neg h]; exact .inl rfl

/-- A cluster's digits. -/
def moreW (base : Nat) (may : Nat → Bool) (cost : Nat → Int) (L : List (Nat × Int)) : List (Nat × Int) :=
  (List.range base).flatMap fun d => if may d then L.map fun e => (e.1 + d, e.2 + cost d) else []

theorem moreW_succ (base : Nat) (may : Nat → Bool) (cost : Nat → Int) (L : List (Nat × Int)) : moreW (base + 1) may cost L = moreW base may cost L ++ if may base then L.map fun e => (e.1 + base, e.2 + cost base) else [] := by
  unfold moreW
  rw [List.range_succ, List.flatMap_append]
  simp

theorem moreW_len (may : Nat → Bool) (cost : Nat → Int) (L : List (Nat × Int)) : ∀ base, (moreW base may cost L).length ≤ base * L.length
  | 0 => by simp [moreW]
  | base + 1 => by
    rw [moreW_succ, List.length_append, Nat.succ_mul]
    have := moreW_len may cost L base
    split <;> simp <;> omega

theorem sem_moreL {base : Nat} {may : Nat → Bool} {cost : Nat → Int} {s : List Wy} {L : List (Nat × Int)} (hs : Sem s L) (okS : Okw s) (hc : ∀ d, 0 ≤ cost d) (hb : ∀ e ∈ L, e.1 + base < 52 ∧ 0 ≤ e.2) (hbase : base ≤ 10)
    (hl : (base + 1) * L.length < 9223372036854775807) : Sem (moreL base may cost s) (moreW base may cost L) := by
  have key : ∀ m, m ≤ base → Sem ((List.range m).foldl (fun out d => if may d then addD d (cost d) s out else out) ((emptyL 0).set 0 ⟨1048576, 0⟩)) (moreW m may cost L) ∧ Okw ((List.range m).foldl (fun out d => if may d then addD d (cost d) s out else out) ((emptyL 0).set 0 ⟨1048576, 0⟩)) := by
    intro m
    induction m with
    | zero => intro _; exact ⟨sem_none, okw_set okw_empty (by simp) (by simp)⟩
    | succ m ih =>
      intro hm
      obtain ⟨ih1, ih2⟩ := ih (by omega)
      rw [List.range_succ, List.foldl_append, moreW_succ]
      simp only [List.foldl_cons, List.foldl_nil]
      by_cases h : may m
      · rw [if_pos h, if_pos h]
        refine ⟨sem_addD hs ih1 okS ih2 (hc m) (fun e he => ⟨by have := hb e he; omega, (hb e he).2⟩) (by omega) ?_, okw_addD okS ih2 (hc m) (51 - m) (by omega)⟩
        have h1 := moreW_len may cost L m
        have h2 : m * L.length + L.length ≤ (base + 1) * L.length := by rw [← Nat.succ_mul]; exact Nat.mul_le_mul_right _ (by omega)
        omega
      · rw [if_neg h, if_neg h, List.append_nil]
        exact ⟨ih1, ih2⟩
  exact (key base (Nat.le_refl _)).1

/-- The top cord's digit, and what is carried on. -/
def topW (base : Nat) (ok : Nat → Bool) (cost : Nat → Int) (L : List (Nat × Int)) : List (Nat × Int) :=
  (L.filter fun e => ok e.1).map fun e => (e.1 / base, e.2 + cost (e.1 % base))

end Go.Proofs.Ytkkiipjfbebipaa

/- Plain law 3: the ways of a whole book as a list. -/
set_option linter.unusedSimpArgs false
set_option linter.unusedVariables false
set_option linter.unnecessarySimpa false
namespace Go.Proofs.Ytkkiipjfbebipaa
open Go Go.V

/-- The part of the ways whose sum is below N. -/
def topP (base : Nat) (ok : Nat → Bool) (cost : Nat → Int) (L : List (Nat × Int)) (N : Nat) : List (Nat × Int) :=
  (L.filter fun e => decide (e.1 < N) && ok e.1).map fun e => (e.1 / base, e.2 + cost (e.1 % base))

theorem topP_sum (base : Nat) (ok : Nat → Bool) (cost : Nat → Int) (L : List (Nat × Int)) (N : Nat) (g : Nat × Int → Nat) :
    sumF (topP base ok cost L (N + 1)) g = sumF (topP base ok cost L N) g + if ok N then sumF L (fun e => if e.1 = N then g (N / base, e.2 + cost (N % base)) else 0) else 0 := by
  unfold topP
  rw [sumF_map, sumF_map, sumF_filter, sumF_filter, sumF_if, ← sumF_add]
  refine sumF_congr fun e _ => ?_
  by_cases h : e.1 = N
  · subst h
    by_cases h2 : ok e.1
    · simp [h2]
    · simp [h2]
  · by_cases h2 : e.1 < N
    · have h3 : e.1 < N + 1 := by omega
      simp [h, h2, h3]
    · have h3 : ¬ e.1 < N + 1 := by omega
      simp [h, h2, h3]

theorem topP_mem (base : Nat) (ok : Nat → Bool) (cost : Nat → Int) (L : List (Nat × Int)) (N : Nat) (x : Nat × Int) :
    x ∈ topP base ok cost L (N + 1) ↔ x ∈ topP base ok cost L N ∨ (ok N = true ∧ ∃ e ∈ L, e.1 = N ∧ x = (N / base, e.2 + cost (N % base))) := by
  unfold topP
  simp only [List.mem_map, List.mem_filter, Bool.and_eq_true, decide_eq_true_eq]
  constructor
  · rintro ⟨e, ⟨h1, h2, h3⟩, rfl⟩
    by_cases h : e.1 < N
    · exact .inl ⟨e, ⟨h1, h, h3⟩, rfl⟩
    · have : e.1 = N := by omega
      rw [this] at h3 ⊢
      exact .inr ⟨h3, e, h1, this, rfl⟩
  · rintro (⟨e, ⟨h1, h2, h3⟩, rfl⟩ | ⟨h1, e, h2, h3, rfl⟩)
    · exact ⟨e, ⟨h1, by omega, h3⟩, rfl⟩
    · exact ⟨e, ⟨h2, by omega, by rw [h3]; exact h1⟩, by rw [h3]⟩

theorem sem_topN {b : Bk} {may : Nat → Nat → Nat → Bool} {carry : Nat → Nat → Bool} {p : Nat} {s : List Wy} {L : List (Nat × Int)} (hs : Sem s L) (okS : Okw s) (hB : 2 ≤ b.base.toNat) (hpos : ∀ e ∈ L, 0 ≤ e.2) (hl : 2 * L.length < 9223372036854775807) : ∀ N, N ≤ 51 →
    Sem ((List.range N).foldl (topN b may carry p s) ((emptyL 0).set 0 ⟨1048576, 0⟩)) (topP b.base.toNat (fun n => may b.cords.length p (n % b.base.toNat) && carry p (n / b.base.toNat)) (fun d => costL (topAt b p) d) L N) ∧
    Okw ((List.range N).foldl (topN b may carry p s) ((emptyL 0).set 0 ⟨1048576, 0⟩))
  | 0, _ => by
    have : topP b.base.toNat (fun n => may b.cords.length p (n % b.base.toNat) && carry p (n / b.base.toNat)) (fun d => costL (topAt b p) d) L 0 = [] := by simp [topP]
    rw [this]
    exact ⟨sem_none, okw_set okw_empty (by simp) (by simp)⟩
  | N + 1, h => by
    obtain ⟨ih1, ih2⟩ := sem_topN hs okS hB hpos hl N (by omega) (b := b) (may := may) (carry := carry) (p := p)
    generalize hok : (fun n => may b.cords.length p (n % b.base.toNat) && carry p (n / b.base.toNat)) = ok at ih1 ⊢
    generalize hco : (fun d : Nat => costL (topAt b p) d) = cost at ih1 ⊢
    generalize hnow : (List.range N).foldl (topN b may carry p s) ((emptyL 0).set 0 ⟨1048576, 0⟩) = now at ih1 ih2
    have hc0 : 0 ≤ cost (N % b.base.toNat) := by rw [← hco]; exact costL_nonneg _ _
    have hcN : costL (topAt b p) ((N % b.base.toNat : Nat) : Int) = cost (N % b.base.toNat) := by rw [← hco]
    have hokN : (may b.cords.length p (N % b.base.toNat) && carry p (N / b.base.toNat)) = ok N := by rw [← hok]
    have hq : N / b.base.toNat ≤ N := Nat.div_le_self _ _
    rw [List.range_succ, List.foldl_append, hnow]
    simp only [List.foldl_cons, List.foldl_nil, topN]
    rw [hokN, hcN]
    refine ⟨?_, ?_⟩
    · by_cases hN : ok N = true
      · rw [if_pos hN]
        have hlen : (topP b.base.toNat ok cost L N).length ≤ L.length := by
          unfold topP; rw [List.length_map]; exact List.length_filter_le _ _
        have hcnt : ∀ (M : List (Nat × Int)) (n : Nat), (sumF M fun e => if e.1 = n ∧ e.2 = 0 then 1 else 0) ≤ M.length := by
          intro M n
          rw [← sumF_len]
          exact sumF_le fun e _ => by split <;> omega
        have hat := fun n => at0_set now (N / b.base.toNat) n ⟨min (at0 now (N / b.base.toNat)).k ((at0 s N).k + cost (N % b.base.toNat)), if cost (N % b.base.toNat) = 0 then w64 ((at0 now (N / b.base.toNat)).r + (at0 s N).r) else (at0 now (N / b.base.toNat)).r⟩ ih2.len (by omega)
        refine ⟨fun n hn => ?_, fun n hn x hx h1 => ?_, fun n hn => ?_⟩
        · rw [hat, topP_sum, if_pos hN]
          by_cases e : N / b.base.toNat = n
          · rw [if_pos e]
            have e1 : (sumF L fun a => if a.1 = N then (if (N / b.base.toNat, a.2 + cost (N % b.base.toNat)).1 = n ∧ (N / b.base.toNat, a.2 + cost (N % b.base.toNat)).2 = 0 then 1 else 0) else 0) = if cost (N % b.base.toNat) = 0 then (sumF L fun e => if e.1 = N ∧ e.2 = 0 then 1 else 0) else 0 := by
              by_cases hz : cost (N % b.base.toNat) = 0
              · rw [if_pos hz]
                refine sumF_congr fun a ha => ?_
                have := hpos a ha
                by_cases q : a.1 = N
                · simp only [q, true_and, e, hz, Int.add_zero, if_true]
                · simp [q]
              · rw [if_neg hz]
                refine Eq.trans (sumF_congr (g := fun _ => 0) fun a ha => ?_) (sumF_zero L)
                have := hpos a ha
                by_cases q : a.1 = N
                · rw [if_pos q, if_neg (by dsimp only; omega)]
                · rw [if_neg q]
            rw [e1]
            subst e
            have i1 := ih1.r (N / b.base.toNat) (by omega)
            have i2 := hs.r N (by omega)
            have := hcnt (topP b.base.toNat ok cost L N) (N / b.base.toNat)
            have := hcnt L N
            dsimp only
            by_cases hz : cost (N % b.base.toNat) = 0
            · simp only [if_pos hz]
              rw [i1, i2, w64_id (by omega)]
              omega
            · simp only [if_neg hz]
              rw [i1]
              omega
          · rw [if_neg e, ih1.r n hn]
            have : (sumF L fun a => if a.1 = N then (if (N / b.base.toNat, a.2 + cost (N % b.base.toNat)).1 = n ∧ (N / b.base.toNat, a.2 + cost (N % b.base.toNat)).2 = 0 then 1 else 0) else 0) = 0 := by
              refine Eq.trans (sumF_congr (g := fun _ => 0) fun a ha => ?_) (sumF_zero L)
              by_cases q : a.1 = N
              · rw [if_pos q, if_neg (by dsimp only; omega)]
              · rw [if_neg q]
            rw [this, Nat.add_zero]
        · rw [hat]
          rcases (topP_mem _ _ _ _ _ _).1 hx with hx | ⟨_, a, ha, h2, rfl⟩
          · have := ih1.lo n hn x hx h1
            split
            · rename_i e
              subst e
              dsimp only
              omega
            · exact this
          · dsimp only at h1 ⊢
            rw [if_pos h1]
            have := hs.lo N (by omega) a ha h2
            dsimp only
            omega
        · rw [hat]
          split
          · rename_i e
            subst e
            dsimp only
            by_cases hle : (at0 now (N / b.base.toNat)).k ≤ (at0 s N).k + cost (N % b.base.toNat)
            · rw [Int.min_eq_left hle]
              rcases ih1.ex _ hn with h | ⟨x, h1, h2, h3⟩
              · exact .inl h
              · exact .inr ⟨x, (topP_mem _ _ _ _ _ _).2 (.inl h1), h2, h3⟩
            · rw [Int.min_eq_right (by omega)]
              have hk := ih2.k1 (N / b.base.toNat) hn
              rcases hs.ex N (by omega) with h | ⟨x, h1, h2, h3⟩
              · simp only [at0] at hle h hk
                omega
              · exact .inr ⟨(N / b.base.toNat, x.2 + cost (N % b.base.toNat)), (topP_mem _ _ _ _ _ _).2 (.inr ⟨hN, x, h1, h2, rfl⟩), rfl, by dsimp only; omega⟩
          · rcases ih1.ex n hn with h | ⟨x, h1, h2, h3⟩
            · exact .inl h
            · exact .inr ⟨x, (topP_mem _ _ _ _ _ _).2 (.inl h1), h2, h3⟩
      · rw [if_neg hN]
        refine ⟨fun n hn => ?_, fun n hn x hx h1 => ?_, fun n hn => ?_⟩
        · rw [topP_sum, if_neg hN, Nat.add_zero]
          exact ih1.r n hn
        · rcases (topP_mem _ _ _ _ _ _).1 hx with hx | ⟨h2, _⟩
          · exact ih1.lo n hn x hx h1
          · exact absurd h2 hN
        · rcases ih1.ex n hn with h | ⟨x, h1, h2, h3⟩
          · exact .inl h
          · exact .inr ⟨x, (topP_mem _ _ _ _ _ _).2 (.inl h1), h2, h3⟩
    · by_cases hN : ok N = true
      · rw [if_pos hN]
        have a := okS.k0 N (by omega)
        have h0 := ih2.k0 (N / b.base.toNat) (by omega)
        have h1 := ih2.k1 (N / b.base.toNat) (by omega)
        exact okw_set ih2 (by dsimp only; omega) (by dsimp only; omega)
      · rw [if_neg hN]
        exact ih2

theorem topP_all {base : Nat} {ok : Nat → Bool} {cost : Nat → Int} {L : List (Nat × Int)} {N : Nat} (h : ∀ e ∈ L, e.1 < N) : topP base ok cost L N = topW base ok cost L := by
  unfold topP topW
  congr 1
  apply List.filter_congr
  intro e he
  simp [h e he]

/-- A place's digits. -/
def colW (b : Bk) (may : Nat → Nat → Nat → Bool) (p : Nat) (L : List (Nat × Int)) : Nat → List (Nat × Int)
  | 0 => L
  | m + 1 => moreW b.base.toNat (may m p) (fun d => costL (spAt b m p) d) (colW b may p L m)

def stepW (b : Bk) (may : Nat → Nat → Nat → Bool) (carry : Nat → Nat → Bool) (p : Nat) (L : List (Nat × Int)) : List (Nat × Int) :=
  topW b.base.toNat (fun n => may b.cords.length p (n % b.base.toNat) && carry p (n / b.base.toNat)) (fun d => costL (topAt b p) d) (colW b may p L b.cords.length)

def solveW (b : Bk) (may : Nat → Nat → Nat → Bool) (carry : Nat → Nat → Bool) : Nat → List (Nat × Int) → List (Nat × Int)
  | 0, L => L
  | q + 1, L => solveW b may carry q (stepW b may carry q L)

theorem colL_succ (b : Bk) (may : Nat → Nat → Nat → Bool) (p : Nat) (s : List Wy) (m : Nat) : colL b may p s (m + 1) = moreL b.base.toNat (may m p) (fun d => costL (spAt b m p) d) (colL b may p s m) := by
  unfold colL
  rw [List.range_succ, List.foldl_append]
  rfl

theorem mem_moreW {base : Nat} {may : Nat → Bool} {cost : Nat → Int} {L : List (Nat × Int)} {x : Nat × Int} : x ∈ moreW base may cost L ↔ ∃ d, d < base ∧ may d = true ∧ ∃ e ∈ L, x = (e.1 + d, e.2 + cost d) := by
  unfold moreW
  simp only [List.mem_flatMap, List.mem_range]
  constructor
  · rintro ⟨d, hd, hx⟩
    by_cases h : may d = true
    · rw [if_pos h] at hx
      obtain ⟨e, he, rfl⟩ := List.mem_map.1 hx
      exact ⟨d, hd, h, e, he, rfl⟩
    · rw [if_neg h] at hx; simp at hx
  · rintro ⟨d, hd, h, e, he, rfl⟩
    exact ⟨d, hd, by rw [if_pos h]; exact List.mem_map.2 ⟨e, he, rfl⟩⟩

theorem sem_col {b : Bk} (hv : Val b) {may : Nat → Nat → Nat → Bool} {p : Nat} {s : List Wy} {L : List (Nat × Int)} (hs : Sem s L) (okS : Okw s) (hb : ∀ e ∈ L, e.1 ≤ b.cords.length ∧ 0 ≤ e.2) {M : Nat} (hL : L.length ≤ M) (hM : M ≤ 1000000000000) : ∀ m, m ≤ b.cords.length →
    Sem (colL b may p s m) (colW b may p L m) ∧ Okw (colL b may p s m) ∧ (∀ e ∈ colW b may p L m, e.1 ≤ b.cords.length + m * (b.base.toNat - 1) ∧ 0 ≤ e.2) ∧ (colW b may p L m).length ≤ 10 ^ m * M
  | 0, _ => ⟨hs, okS, by simpa [colW] using hb, by simpa [colW] using hL⟩
  | m + 1, h => by
    obtain ⟨hb1, hb2⟩ := hv.hb
    have hc4 := hv.hc
    obtain ⟨i1, i2, i3, i4⟩ := sem_col hv hs okS hb hL hM m (by omega) (may := may) (p := p)
    have hmm : m * (b.base.toNat - 1) ≤ 3 * 9 := Nat.mul_le_mul (by omega) (by omega)
    have hp : (10 : Nat) ^ m ≤ 1000 := by
      have : m = 0 ∨ m = 1 ∨ m = 2 ∨ m = 3 := by omega
      rcases this with rfl | rfl | rfl | rfl <;> decide
    have hlen : (colW b may p L m).length ≤ 1000 * 1000000000000 := Nat.le_trans i4 (Nat.mul_le_mul hp hM)
    have h11 : (b.base.toNat + 1) * (colW b may p L m).length ≤ 11 * (1000 * 1000000000000) := Nat.mul_le_mul (by omega) hlen
    rw [colL_succ]
    refine ⟨sem_moreL i1 i2 (fun d => costL_nonneg _ _) (fun e he => ⟨by have := i3 e he; omega, (i3 e he).2⟩) (by omega) (by omega), okw_moreL i2 (by omega) (fun d => costL_nonneg _ _), fun e he => ?_, ?_⟩
    · obtain ⟨d, hd, _, a, ha, rfl⟩ := mem_moreW.1 he
      have := i3 a ha
      have := costL_nonneg (spAt b m p) d
      rw [Nat.succ_mul]
      dsimp only
      omega
    · refine Nat.le_trans (moreW_len _ _ _ _) ?_
      refine Nat.le_trans (Nat.mul_le_mul (show b.base.toNat ≤ 10 by omega) i4) ?_
      rw [Nat.pow_succ, Nat.mul_comm (10 ^ m) 10, Nat.mul_assoc]
      exact Nat.le_refl _

theorem sem_step {b : Bk} (hv : Val b) {may : Nat → Nat → Nat → Bool} {carry : Nat → Nat → Bool} {p : Nat} {s : List Wy} {L : List (Nat × Int)} (hs : Sem s L) (okS : Okw s) (hb : ∀ e ∈ L, e.1 ≤ b.cords.length ∧ 0 ≤ e.2) {M : Nat} (hL : L.length ≤ M) (hM : M ≤ 1000000000000) :
    Sem (stepL b may carry p s) (stepW b may carry p L) ∧ Okw (stepL b may carry p s) ∧ (∀ e ∈ stepW b may carry p L, e.1 ≤ b.cords.length ∧ 0 ≤ e.2) ∧ (stepW b may carry p L).length ≤ 10000 * M := by
  obtain ⟨hb1, hb2⟩ := hv.hb
  have hc4 := hv.hc
  obtain ⟨i1, i2, i3, i4⟩ := sem_col hv hs okS hb hL hM b.cords.length (Nat.le_refl _) (may := may) (p := p)
  have hmm : b.cords.length * (b.base.toNat - 1) ≤ 4 * 9 := Nat.mul_le_mul (by omega) (by omega)
  have hp : (10 : Nat) ^ b.cords.length ≤ 10000 := by
    have : b.cords.length = 0 ∨ b.cords.length = 1 ∨ b.cords.length = 2 ∨ b.cords.length = 3 ∨ b.cords.length = 4 := by omega
    rcases this with h | h | h | h | h <;> rw [h] <;> decide
  have hlen : (colW b may p L b.cords.length).length ≤ 10000 * M := Nat.le_trans i4 (Nat.mul_le_mul_right _ hp)
  have hlen2 : 10000 * M ≤ 10000 * 1000000000000 := Nat.mul_le_mul_left _ hM
  obtain ⟨j1, j2⟩ := sem_topN i1 i2 (show 2 ≤ b.base.toNat by omega) (fun e he => (i3 e he).2) (by omega) 51 (Nat.le_refl _) (b := b) (may := may) (carry := carry) (p := p)
  rw [topP_all (fun e he => by have := i3 e he; omega)] at j1
  refine ⟨j1, j2, fun e he => ?_, ?_⟩
  · unfold stepW topW at he
    obtain ⟨a, ha, rfl⟩ := List.mem_map.1 he
    have := i3 a (List.mem_filter.1 ha).1
    have := costL_nonneg (topAt b p) ((a.1 % b.base.toNat : Nat) : Int)
    refine ⟨?_, by dsimp only; omega⟩
    dsimp only
    have e1 : b.cords.length + b.cords.length * (b.base.toNat - 1) = b.cords.length * b.base.toNat := by
      obtain ⟨B, hB⟩ : ∃ B, b.base.toNat = B + 1 := ⟨b.base.toNat - 1, by omega⟩
      rw [hB, Nat.add_sub_cancel, Nat.mul_succ, Nat.add_comm]
    have : a.1 ≤ b.cords.length * b.base.toNat := by omega
    exact Nat.div_le_of_le_mul (by rw [Nat.mul_comm]; exact this)
  · unfold stepW topW
    rw [List.length_map]
    exact Nat.le_trans (List.length_filter_le _ _) hlen

theorem sem_solve {b : Bk} (hv : Val b) {may : Nat → Nat → Nat → Bool} {carry : Nat → Nat → Bool} : ∀ (q : Nat) (s : List Wy) (L : List (Nat × Int)) (M : Nat), Sem s L → Okw s → (∀ e ∈ L, e.1 ≤ b.cords.length ∧ 0 ≤ e.2) → L.length ≤ M → 10000 ^ q * M ≤ 10000000000000000 →
    Sem (solveF b may carry q s) (solveW b may carry q L) ∧ ∀ e ∈ solveW b may carry q L, 0 ≤ e.2
  | 0, s, L, M, h1, _, h3, _, _ => ⟨h1, fun e he => (h3 e he).2⟩
  | q + 1, s, L, M, h1, h2, h3, h4, h5 => by
    have hq : 1 ≤ 10000 ^ q := Nat.one_le_pow _ _ (by omega)
    have hM : M ≤ 1000000000000 := by
      rw [Nat.pow_succ] at h5
      have : 1 * 10000 * M ≤ 10000 ^ q * 10000 * M := Nat.mul_le_mul_right _ (Nat.mul_le_mul_right _ hq)
      omega
    obtain ⟨i1, i2, i3, i4⟩ := sem_step hv h1 h2 h3 h4 hM (may := may) (carry := carry) (p := q)
    exact sem_solve hv q _ _ (10000 * M) i1 i2 i3 i4 (by rw [Nat.pow_succ, Nat.mul_assoc] at h5; exact h5)

theorem solveL_sem {b : Bk} (hv : Val b) (may : Nat → Nat → Nat → Bool) (carry : Nat → Nat → Bool) :
    (solveL b may carry).r = ((sumF (solveW b may carry b.places.toNat [(0, 0)]) fun e => if e.1 = 0 ∧ e.2 = 0 then 1 else 0 : Nat) : Int) ∧
    (∀ e ∈ solveW b may carry b.places.toNat [(0, 0)], e.1 = 0 → (solveL b may carry).k ≤ e.2) ∧
    ((solveL b may carry).k = 1048576 ∨ ∃ e ∈ solveW b may carry b.places.toNat [(0, 0)], e.1 = 0 ∧ e.2 = (solveL b may carry).k) := by
  have hp := hv.hp
  have h4 : 10000 ^ b.places.toNat * 1 ≤ 10000000000000000 := by
    have : b.places.toNat = 1 ∨ b.places.toNat = 2 ∨ b.places.toNat = 3 ∨ b.places.toNat = 4 := by omega
    rcases this with h | h | h | h <;> rw [h] <;> decide
  obtain ⟨h, _⟩ := sem_solve hv b.places.toNat (emptyL 0) [(0, 0)] 1 sem_one okw_empty (by simp) (by simp) h4 (may := may) (carry := carry)
  exact ⟨h.r 0 (by omega), h.lo 0 (by omega), h.ex 0 (by omega)⟩

end Go.Proofs.Ytkkiipjfbebipaa

/- Plain law 4: the ways are the tuples of numbers. -/
set_option linter.unusedSimpArgs false
set_option linter.unusedVariables false
set_option linter.unnecessarySimpa false
namespace Go.Proofs.Ytkkiipjfbebipaa
open Go Go.V

theorem sumF_tup_last (N : Nat) : ∀ (j : Nat) (f : List Nat → Nat), sumF (tup (j + 1) N) f = sumF (tup j N) fun t => sumF (List.range N) fun n => f (t ++ [n])
  | 0, f => by
    rw [sumF_tup_succ]
    simp [tup, sumF_cons, sumF_nil]
  | j + 1, f => by
    rw [sumF_tup_succ, sumF_tup_succ]
    refine sumF_congr fun n _ => ?_
    rw [sumF_tup_last N j]
    rfl

theorem sumF_moreW (base : Nat) (may : Nat → Bool) (cost : Nat → Int) (L : List (Nat × Int)) (g : Nat × Int → Nat) :
    sumF (moreW base may cost L) g = sumF L fun e => sumF (List.range base) fun d => if may d then g (e.1 + d, e.2 + cost d) else 0 := by
  rw [moreW, sumF_flatMap, sumF_comm]
  refine sumF_congr fun d _ => ?_
  by_cases h : may d = true
  · rw [if_pos h, sumF_map]
    exact sumF_congr fun e _ => by rw [if_pos h]
  · rw [if_neg h, sumF_nil]
    exact (Eq.trans (sumF_congr (g := fun _ => 0) fun e _ => by rw [if_neg h]) (sumF_zero L)).symm

/-- What the digits of a place may be. -/
def colOK (may : Nat → Nat → Nat → Bool) (p : Nat) (j : Nat) (d : List Nat) : Bool := (List.range j).all fun c => may c p (d[c]?.getD default)
def colCost (b : Bk) (p : Nat) (j : Nat) (d : List Nat) : Int := (List.range j).foldl (fun a c => a + costL (spAt b c p) (d[c]?.getD default : Nat)) 0

theorem colOK_snoc (may : Nat → Nat → Nat → Bool) (p j n : Nat) (d : List Nat) (h : d.length = j) : colOK may p (j + 1) (d ++ [n]) = (colOK may p j d && may j p n) := by
  unfold colOK
  rw [List.range_succ, List.all_append]
  congr 1
  · have : ∀ c, c ∈ List.range j → may c p ((d ++ [n])[c]?.getD default) = may c p (d[c]?.getD default) := by
      intro c hc
      have := List.mem_range.1 hc
      rw [List.getElem?_append_left (by omega)]
    rw [Bool.eq_iff_iff, List.all_eq_true, List.all_eq_true]
    exact ⟨fun h c hc => by rw [← this c hc]; exact h c hc, fun h c hc => by rw [this c hc]; exact h c hc⟩
  · subst h
    simp

theorem colCost_snoc (b : Bk) (p j n : Nat) (d : List Nat) (h : d.length = j) : colCost b p (j + 1) (d ++ [n]) = colCost b p j d + costL (spAt b j p) n := by
  unfold colCost
  rw [List.range_succ, List.foldl_append]
  simp only [List.foldl_cons, List.foldl_nil]
  have h2 : (d ++ [n])[j]?.getD default = n := by subst h; simp
  rw [h2]
  congr 1
  have : ∀ (l : List Nat) (a : Int), (∀ c ∈ l, c < j) → l.foldl (fun a c => a + costL (spAt b c p) ((d ++ [n])[c]?.getD default : Nat)) a = l.foldl (fun a c => a + costL (spAt b c p) (d[c]?.getD default : Nat)) a := by
    intro l
    induction l with
    | nil => intro a _; rfl
    | cons x r ih =>
      intro a hx
      simp only [List.foldl_cons]
      rw [ih _ fun c hc => hx c (by simp [hc]), List.getElem?_append_left (by have := hx x (by simp); omega)]
  exact this _ _ fun c hc => List.mem_range.1 hc

theorem sumF_colW (b : Bk) (may : Nat → Nat → Nat → Bool) (p : Nat) (L : List (Nat × Int)) : ∀ (j : Nat) (g : Nat × Int → Nat),
    sumF (colW b may p L j) g = sumF L fun e => sumF (tup j b.base.toNat) fun d => if colOK may p j d then g (e.1 + d.sum, e.2 + colCost b p j d) else 0
  | 0, g => by
    refine sumF_congr fun e _ => ?_
    simp [tup, sumF_cons, sumF_nil, colOK, colCost]
  | j + 1, g => by
    rw [colW, sumF_moreW, sumF_colW b may p L j]
    refine sumF_congr fun e _ => ?_
    rw [sumF_tup_last]
    refine sumF_congr fun t ht => ?_
    have hl := (tup_mem.1 ht).1
    rw [sumF_if]
    refine sumF_congr fun n _ => ?_
    rw [colOK_snoc _ _ _ _ _ hl, colCost_snoc _ _ _ _ _ hl]
    simp only [List.sum_append, List.sum_cons, List.sum_nil, Nat.add_zero, Bool.and_eq_true]
    by_cases h1 : colOK may p j t = true
    · by_cases h2 : may j p n = true
      · simp only [h1, h2, if_true, and_self, Nat.add_assoc, Int.add_assoc]
      · simp [h1, h2]
    · simp [h1]

/-- The digits' sum at a place, with what is carried to it. -/
def carT (B : Nat) : Nat → List Nat → Nat
  | 0, _ => 0
  | k + 1, t => ((t.map (· / B ^ k)).sum + carT B k (t.map (· % B ^ k))) / B

def colT (B k : Nat) (t : List Nat) : Nat := (t.map (· / B ^ k)).sum + carT B k (t.map (· % B ^ k))

def okT (b : Bk) (may : Nat → Nat → Nat → Bool) (carry : Nat → Nat → Bool) : Nat → List Nat → Bool
  | 0, _ => true
  | k + 1, t => okT b may carry k (t.map (· % b.base.toNat ^ k)) && (colOK may (b.places.toNat - 1 - k) b.cords.length (t.map (· / b.base.toNat ^ k)) &&
      (may b.cords.length (b.places.toNat - 1 - k) (colT b.base.toNat k t % b.base.toNat) && carry (b.places.toNat - 1 - k) (colT b.base.toNat k t / b.base.toNat)))

def costT (b : Bk) : Nat → List Nat → Int
  | 0, _ => 0
  | k + 1, t => costT b k (t.map (· % b.base.toNat ^ k)) + colCost b (b.places.toNat - 1 - k) b.cords.length (t.map (· / b.base.toNat ^ k)) + costL (topAt b (b.places.toNat - 1 - k)) (colT b.base.toNat k t % b.base.toNat : Nat)

/-- The ways by the places that are done. -/
def LK (b : Bk) (may : Nat → Nat → Nat → Bool) (carry : Nat → Nat → Bool) : Nat → List (Nat × Int)
  | 0 => [(0, 0)]
  | k + 1 => stepW b may carry (b.places.toNat - 1 - k) (LK b may carry k)

theorem solveW_LK (b : Bk) (may : Nat → Nat → Nat → Bool) (carry : Nat → Nat → Bool) : ∀ q, q ≤ b.places.toNat → solveW b may carry q (LK b may carry (b.places.toNat - q)) = LK b may carry b.places.toNat
  | 0, _ => by rw [Nat.sub_zero]; rfl
  | q + 1, h => by
    have ih := solveW_LK b may carry q (by omega)
    rw [show b.places.toNat - q = (b.places.toNat - (q + 1)) + 1 by omega, LK, show b.places.toNat - 1 - (b.places.toNat - (q + 1)) = q by omega] at ih
    exact ih

theorem sumF_LK (b : Bk) (may : Nat → Nat → Nat → Bool) (carry : Nat → Nat → Bool) : ∀ (k : Nat) (f : Nat × Int → Nat),
    sumF (LK b may carry k) f = sumF (tup b.cords.length (b.base.toNat ^ k)) fun t => if okT b may carry k t then f (carT b.base.toNat k t, costT b k t) else 0
  | 0, f => by
    have h1 : ∀ m, sumF (tup m 1) (fun t => if okT b may carry 0 t then f (carT b.base.toNat 0 t, costT b 0 t) else 0) = f (0, 0) := by
      intro m
      induction m with
      | zero => simp [tup, sumF_cons, sumF_nil, okT, carT, costT]
      | succ m ih =>
        rw [sumF_tup_succ]
        simp only [List.range_one, sumF_cons, sumF_nil, Nat.add_zero]
        exact ih
    rw [Nat.pow_zero, h1]
    simp [LK, sumF_cons, sumF_nil]
  | k + 1, f => by
    rw [LK, stepW, topW, sumF_map, sumF_filter, sumF_colW, sumF_LK b may carry k, Nat.pow_succ, Nat.mul_comm, sumF_tup_mul]
    refine sumF_congr fun t ht => ?_
    obtain ⟨hl, hlt⟩ := tup_mem.1 ht
    rw [sumF_if]
    refine sumF_congr fun d hd => ?_
    obtain ⟨hl2, _⟩ := tup_mem.1 hd
    obtain ⟨e1, e2⟩ := comb_low (N := b.base.toNat ^ k) (d := d) (t := t) (by rw [hl, hl2]) hlt
    have e3 : colT b.base.toNat k (comb (b.base.toNat ^ k) d t) = carT b.base.toNat k t + d.sum := by
      unfold colT
      rw [e1, e2, Nat.add_comm]
    have e4 : carT b.base.toNat (k + 1) (comb (b.base.toNat ^ k) d t) = (carT b.base.toNat k t + d.sum) / b.base.toNat := by
      rw [← e3]
      rfl
    simp only [okT, costT, e1, e2, e3, e4]
    by_cases h1 : okT b may carry k t = true
    · by_cases h2 : colOK may (b.places.toNat - 1 - k) b.cords.length d = true
      · simp only [h1, h2, if_true, Bool.true_and]
      · simp [h1, h2]
    · simp [h1]

end Go.Proofs.Ytkkiipjfbebipaa

/- Plain law 5: what a loom reckons is what the lists of numbers say. -/
set_option linter.unusedSimpArgs false
set_option linter.unusedVariables false
set_option linter.unnecessarySimpa false
namespace Go.Proofs.Ytkkiipjfbebipaa
open Go Go.V

/-! ### sums of whole numbers -/
def isum (n : Nat) (f : Nat → Int) : Int := (List.range n).foldl (fun a i => a + f i) 0

theorem isum_zero (f : Nat → Int) : isum 0 f = 0 := rfl
theorem isum_succ (n : Nat) (f : Nat → Int) : isum (n + 1) f = isum n f + f n := by
  unfold isum
  rw [List.range_succ, List.foldl_append]
  rfl
theorem isum_congr {n : Nat} {f g : Nat → Int} (h : ∀ i, i < n → f i = g i) : isum n f = isum n g := by
  induction n with
  | zero => rfl
  | succ n ih => rw [isum_succ, isum_succ, ih fun i hi => h i (by omega), h n (by omega)]
theorem isum_add (n : Nat) (f g : Nat → Int) : (isum n fun i => f i + g i) = isum n f + isum n g := by
  induction n with
  | zero => rfl
  | succ n ih => rw [isum_succ, isum_succ, isum_succ, ih]; omega
theorem isum_const0 (n : Nat) : (isum n fun _ => 0) = 0 := by
  induction n with
  | zero => rfl
  | succ n ih => rw [isum_succ, ih]; rfl
theorem isum_comm (n m : Nat) (f : Nat → Nat → Int) : (isum n fun i => isum m (f i)) = isum m fun j => isum n fun i => f i j := by
  induction n with
  | zero =>
    have : (isum m fun j => isum 0 fun i => f i j) = isum m fun _ => 0 := isum_congr fun j _ => rfl
    rw [this, isum_const0]; rfl
  | succ n ih =>
    rw [isum_succ, ih, ← isum_add]
    exact isum_congr fun j _ => by rw [isum_succ]
theorem isum_nonneg {n : Nat} {f : Nat → Int} (h : ∀ i, i < n → 0 ≤ f i) : 0 ≤ isum n f := by
  induction n with
  | zero => exact Int.le_refl _
  | succ n ih =>
    rw [isum_succ]
    have := ih fun i hi => h i (by omega)
    have := h n (by omega)
    omega
theorem isum_eq0 {n : Nat} {f : Nat → Int} (h : ∀ i, i < n → 0 ≤ f i) : isum n f = 0 ↔ ∀ i, i < n → f i = 0 := by
  induction n with
  | zero => exact ⟨fun _ i hi => by omega, fun _ => rfl⟩
  | succ n ih =>
    rw [isum_succ]
    have h1 := isum_nonneg (n := n) (f := f) fun i hi => h i (by omega)
    have h2 := h n (by omega)
    have ih := ih fun i hi => h i (by omega)
    constructor
    · intro e i hi
      rcases Nat.lt_or_ge i n with hl | hl
      · exact ih.1 (by omega) i hl
      · have : i = n := by omega
        subst this
        omega
    · intro e
      have := ih.2 fun i hi => e i (by omega)
      have := e n (by omega)
      omega

/-! ### sums and remainders -/
theorem sum_divmod (N : Nat) (t : List Nat) : t.sum = (t.map (· / N)).sum * N + (t.map (· % N)).sum := by
  induction t with
  | nil => simp
  | cons x r ih =>
    simp only [List.sum_cons, List.map_cons, Nat.add_mul]
    have := Nat.div_add_mod x N
    rw [Nat.mul_comm] at this
    omega

theorem sum_div {N : Nat} (hN : 0 < N) (t : List Nat) : (t.map (· / N)).sum + (t.map (· % N)).sum / N = t.sum / N := by
  rw [sum_divmod N t, Nat.mul_comm, Nat.mul_add_div hN]

theorem sum_mod (N : Nat) (t : List Nat) : (t.map (· % N)).sum % N = t.sum % N := by
  rw [sum_divmod N t, Nat.mul_comm, Nat.mul_add_mod]

theorem carT_eq {B : Nat} (hB : 0 < B) : ∀ (k : Nat) (t : List Nat), (∀ x ∈ t, x < B ^ k) → carT B k t = t.sum / B ^ k
  | 0, t, h => by
    have : t.sum = 0 := by
      induction t with
      | nil => rfl
      | cons x r ih =>
        have := h x (by simp)
        rw [List.sum_cons, ih fun y hy => h y (by simp [hy])]
        simp at this
        omega
    simp [carT, this]
  | k + 1, t, h => by
    have hp : 0 < B ^ k := Nat.pow_pos hB
    rw [carT, carT_eq hB k _ (fun x hx => by
      obtain ⟨y, _, rfl⟩ := List.mem_map.1 hx
      exact Nat.mod_lt _ hp), sum_div hp, Nat.div_div_eq_div_mul, Nat.pow_succ]

theorem colT_eq {B : Nat} (hB : 0 < B) (k : Nat) (t : List Nat) : colT B k t = t.sum / B ^ k := by
  have hp : 0 < B ^ k := Nat.pow_pos hB
  rw [colT, carT_eq hB k _ (fun x hx => by
      obtain ⟨y, _, rfl⟩ := List.mem_map.1 hx
      exact Nat.mod_lt _ hp), sum_div hp]

theorem map_mod_mod {B k K : Nat} (h : k ≤ K) (t : List Nat) : (t.map (· % B ^ K)).map (· % B ^ k) = t.map (· % B ^ k) := by
  rw [List.map_map]
  apply List.map_congr_left
  intro x _
  exact Nat.mod_mod_of_dvd x (Nat.pow_dvd_pow B h)

theorem map_mod_self {N : Nat} {t : List Nat} (h : ∀ x ∈ t, x < N) : t.map (· % N) = t := by
  induction t with
  | nil => rfl
  | cons x r ih => rw [List.map_cons, Nat.mod_eq_of_lt (h x (by simp)), ih fun y hy => h y (by simp [hy])]

/-! ### readings -/
/-- A digit of a number of a reading. -/
def dgN (b : Bk) (l : List Nat) (c p : Nat) : Nat := (l[c]?.getD default) / b.base.toNat ^ (b.places.toNat - 1 - p) % b.base.toNat

/-- What is carried from a place. -/
def carN (b : Bk) (l : List Nat) (p : Nat) : Nat := ((l.take b.cords.length).map (· % b.base.toNat ^ (b.places.toNat - p))).sum / b.base.toNat ^ (b.places.toNat - p)

def allOK (b : Bk) (may : Nat → Nat → Nat → Bool) (carry : Nat → Nat → Bool) (l : List Nat) : Bool :=
  (List.range b.places.toNat).all fun p => ((List.range (b.cords.length + 1)).all fun c => may c p (dgN b l c p)) && carry p (carN b l p)

def cordSp (b : Bk) (c p : Nat) : Sp := (cordAt b c)[p]?.getD default

def costN (b : Bk) (l : List Nat) : Int := isum (b.cords.length + 1) fun c => isum b.places.toNat fun p => costL (cordSp b c p) (dgN b l c p : Nat)

/-- One place of 'okT'. -/
def okP (b : Bk) (may : Nat → Nat → Nat → Bool) (carry : Nat → Nat → Bool) (k : Nat) (u : List Nat) : Bool :=
  colOK may (b.places.toNat - 1 - k) b.cords.length (u.map (· / b.base.toNat ^ k)) &&
      (may b.cords.length (b.places.toNat - 1 - k) (colT b.base.toNat k u % b.base.toNat) && carry (b.places.toNat - 1 - k) (colT b.base.toNat k u / b.base.toNat))

def costP (b : Bk) (k : Nat) (u : List Nat) : Int :=
  colCost b (b.places.toNat - 1 - k) b.cords.length (u.map (· / b.base.toNat ^ k)) + costL (topAt b (b.places.toNat - 1 - k)) (colT b.base.toNat k u % b.base.toNat : Nat)

theorem okT_places (b : Bk) (may : Nat → Nat → Nat → Bool) (carry : Nat → Nat → Bool) : ∀ (K : Nat) (t : List Nat), (∀ x ∈ t, x < b.base.toNat ^ K) →
    (okT b may carry K t = true ↔ ∀ k, k < K → okP b may carry k (t.map (· % b.base.toNat ^ (k + 1))) = true)
  | 0, t, _ => ⟨fun _ k hk => by omega, fun _ => rfl⟩
  | K + 1, t, h => by
    by_cases hB : b.base.toNat = 0
    · -- no number is below 0
      cases t with
      | nil =>
        have ih := okT_places b may carry K [] (by simp)
        show (okT b may carry K ([].map _) && okP b may carry K []) = true ↔ _
        rw [Bool.and_eq_true]
        simp only [List.map_nil] at ih ⊢
        rw [ih]
        constructor
        · rintro ⟨h1, h2⟩ k hk
          rcases Nat.lt_or_ge k K with hl | hl
          · exact h1 k hl
          · have : k = K := by omega
            subst this
            exact h2
        · intro h1
          exact ⟨fun k hk => h1 k (by omega), h1 K (by omega)⟩
      | cons x r =>
        have := h x (by simp)
        rw [hB, Nat.zero_pow (by omega)] at this
        omega
    · have hp : 0 < b.base.toNat ^ K := Nat.pow_pos (by omega)
      have ih := okT_places b may carry K (t.map (· % b.base.toNat ^ K)) (fun x hx => by
        obtain ⟨y, _, rfl⟩ := List.mem_map.1 hx
        exact Nat.mod_lt _ hp)
      show (okT b may carry K (t.map (· % b.base.toNat ^ K)) && okP b may carry K t) = true ↔ _
      rw [Bool.and_eq_true, ih]
      constructor
      · rintro ⟨h1, h2⟩ k hk
        rcases Nat.lt_or_ge k K with hl | hl
        · have := h1 k hl
          rwa [map_mod_mod (by omega)] at this
        · have : k = K := by omega
          subst this
          rw [map_mod_self h]
          exact h2
      · intro h1
        refine ⟨fun k hk => ?_, ?_⟩
        · rw [map_mod_mod (by omega)]
          exact h1 k (by omega)
        · have := h1 K (by omega)
          rwa [map_mod_self h] at this

theorem costT_places (b : Bk) (hB : 0 < b.base.toNat) : ∀ (K : Nat) (t : List Nat), (∀ x ∈ t, x < b.base.toNat ^ K) →
    costT b K t = isum K fun k => costP b k (t.map (· % b.base.toNat ^ (k + 1)))
  | 0, t, _ => rfl
  | K + 1, t, h => by
    have hp : 0 < b.base.toNat ^ K := Nat.pow_pos hB
    have ih := costT_places b hB K (t.map (· % b.base.toNat ^ K)) (fun x hx => by
        obtain ⟨y, _, rfl⟩ := List.mem_map.1 hx
        exact Nat.mod_lt _ hp)
    rw [isum_succ, map_mod_self h, costT, ih, Int.add_assoc]
    rw [show costP b K t = _ from rfl, costP]
    congr 1
    exact isum_congr fun k hk => by rw [map_mod_mod (by omega)]

/-- The digits and the sum's digit at a place. -/
theorem place_digits {b : Bk} (hB : 0 < b.base.toNat) {t : List Nat} (ht : t.length = b.cords.length) {k : Nat} (hk : k < b.places.toNat) :
    (∀ c, c < b.cords.length → ((t.map (· % b.base.toNat ^ (k + 1))).map (· / b.base.toNat ^ k))[c]?.getD default = dgN b (t ++ [t.sum]) c (b.places.toNat - 1 - k)) ∧
    colT b.base.toNat k (t.map (· % b.base.toNat ^ (k + 1))) % b.base.toNat = dgN b (t ++ [t.sum]) b.cords.length (b.places.toNat - 1 - k) ∧
    colT b.base.toNat k (t.map (· % b.base.toNat ^ (k + 1))) / b.base.toNat = carN b (t ++ [t.sum]) (b.places.toNat - 1 - k) := by
  have e0 : b.places.toNat - 1 - (b.places.toNat - 1 - k) = k := by omega
  have e1 : b.places.toNat - (b.places.toNat - 1 - k) = k + 1 := by omega
  refine ⟨fun c hc => ?_, ?_, ?_⟩
  · have hc2 : c < t.length := by omega
    unfold dgN
    rw [e0, List.getElem?_append_left hc2]
    simp only [List.getElem?_map, List.getElem?_eq_getElem hc2, Option.map_some, Option.getD_some]
    rw [Nat.pow_succ, Nat.mod_mul_right_div_self]
  · unfold dgN
    rw [colT_eq hB, e0, ← ht, List.getElem?_append_right (Nat.le_refl _)]
    simp only [Nat.sub_self, List.getElem?_cons_zero, Option.getD_some]
    rw [← Nat.mod_mul_right_div_self, ← Nat.mod_mul_right_div_self, ← Nat.pow_succ, sum_mod]
  · unfold carN
    rw [colT_eq hB, e1, ← ht, List.take_left, Nat.div_div_eq_div_mul, ← Nat.pow_succ]

theorem okT_all {b : Bk} (hB : 0 < b.base.toNat) (may : Nat → Nat → Nat → Bool) (carry : Nat → Nat → Bool) {t : List Nat} (ht : t ∈ tup b.cords.length (b.base.toNat ^ b.places.toNat)) :
    okT b may carry b.places.toNat t = allOK b may carry (t ++ [t.sum]) := by
  obtain ⟨hl, hlt⟩ := tup_mem.1 ht
  rw [Bool.eq_iff_iff, okT_places b may carry _ t hlt]
  unfold allOK
  rw [List.all_eq_true]
  have key : ∀ k, k < b.places.toNat → (okP b may carry k (t.map (· % b.base.toNat ^ (k + 1))) = true ↔
      (((List.range (b.cords.length + 1)).all fun c => may c (b.places.toNat - 1 - k) (dgN b (t ++ [t.sum]) c (b.places.toNat - 1 - k))) && carry (b.places.toNat - 1 - k) (carN b (t ++ [t.sum]) (b.places.toNat - 1 - k))) = true) := by
    intro k hk
    obtain ⟨d1, d2, d3⟩ := place_digits hB hl hk
    unfold okP colOK
    rw [d2, d3]
    simp only [Bool.and_eq_true, List.all_eq_true, List.mem_range]
    constructor
    · rintro ⟨h1, h2, h3⟩
      refine ⟨fun c hc => ?_, h3⟩
      rcases Nat.lt_or_ge c b.cords.length with h | h
      · rw [← d1 c h]; exact h1 c h
      · rw [show c = b.cords.length by omega]; exact h2
    · rintro ⟨h1, h3⟩
      exact ⟨fun c hc => by rw [d1 c hc]; exact h1 c (by omega), h1 _ (by omega), h3⟩
  constructor
  · intro h p hp
    have hp := List.mem_range.1 hp
    have := (key (b.places.toNat - 1 - p) (by omega)).1 (h _ (by omega))
    rwa [show b.places.toNat - 1 - (b.places.toNat - 1 - p) = p by omega] at this
  · intro h k hk
    exact (key k hk).2 (h _ (List.mem_range.2 (by omega)))

/-- The other way through a sum. -/
theorem isum_rev (n : Nat) (f : Nat → Int) : (isum n fun k => f (n - 1 - k)) = isum n f := by
  have key : ∀ m, m ≤ n → (isum m fun k => f (n - 1 - k)) + isum (n - m) f = isum n f := by
    intro m
    induction m with
    | zero => intro _; rw [isum_zero, Nat.sub_zero, Int.zero_add]
    | succ m ih =>
      intro h
      have := ih (by omega)
      rw [isum_succ]
      rw [show n - m = (n - (m + 1)) + 1 by omega, isum_succ] at this
      rw [show n - 1 - m = n - (m + 1) by omega]
      omega
  have := key n (Nat.le_refl _)
  rw [Nat.sub_self, isum_zero] at this
  omega

theorem costT_all {b : Bk} (hB : 0 < b.base.toNat) {t : List Nat} (ht : t ∈ tup b.cords.length (b.base.toNat ^ b.places.toNat)) :
    costT b b.places.toNat t = costN b (t ++ [t.sum]) := by
  obtain ⟨hl, hlt⟩ := tup_mem.1 ht
  rw [costT_places b hB _ t hlt]
  unfold costN
  rw [isum_comm]
  refine Eq.trans (isum_congr fun k hk => ?_) (isum_rev b.places.toNat _)
  obtain ⟨d1, d2, d3⟩ := place_digits hB hl hk
  unfold costP
  rw [d2, isum_succ]
  have e2 : cordSp b b.cords.length (b.places.toNat - 1 - k) = topAt b (b.places.toNat - 1 - k) := by simp [cordSp, cordAt, topAt]
  rw [e2]
  congr 1
  show isum b.cords.length _ = _
  refine isum_congr fun c hc => ?_
  rw [d1 c hc]
  have : cordSp b c (b.places.toNat - 1 - k) = spAt b c (b.places.toNat - 1 - k) := by
    unfold cordSp cordAt spAt
    rw [if_neg (by omega)]
  rw [this]

theorem tieN_at (B : Nat) : ∀ (P n p : Nat), p < P → (tieN B P n)[p]?.getD default = ((n / B ^ (P - 1 - p) % B : Nat) : Int)
  | 0, _, _, h => by omega
  | P + 1, n, p, h => by
    rcases Nat.lt_or_ge p P with hl | hl
    · rw [tieN, List.getElem?_append_left (by rw [tieN_len]; exact hl), tieN_at B P _ p hl, Nat.div_div_eq_div_mul, Nat.mul_comm, ← Nat.pow_succ]
      congr 4
      omega
    · have : p = P := by omega
      subst this
      rw [tieN, List.getElem?_append_right (by rw [tieN_len]; omega), tieN_len]
      simp

theorem costL_zero {s : Sp} {d : Int} : costL s d = 0 ↔ within d s.lo s.hi = true := by
  unfold costL within
  simp only [decide_eq_true_eq]
  omega

theorem fits_cost {b : Bk} (hv : Val b) {c : Nat} (hc : c ≤ b.cords.length) (l : List Nat) : fitsL (cordAt b c) (tieN b.base.toNat b.places.toNat (l[c]?.getD default)) = true ↔ (isum b.places.toNat fun p => costL (cordSp b c p) (dgN b l c p : Nat)) = 0 := by
  have hlen := (cordAt_val hv hc).1
  rw [isum_eq0 fun p _ => costL_nonneg _ _]
  unfold fitsL
  rw [List.all_eq_true]
  have hl2 : (cordAt b c).length = b.places.toNat := by omega
  rw [hl2]
  constructor
  · intro h p hp
    have := h p (List.mem_range.2 hp)
    rw [tieN_at _ _ _ _ hp] at this
    exact costL_zero.2 this
  · intro h p hp
    have hp := List.mem_range.1 hp
    rw [tieN_at _ _ _ _ hp]
    exact costL_zero.1 (h p hp)

/-- The reference's lists as sums over tuples. -/
theorem sumF_sumsN (b : Bk) (freely : Bool) : ∀ (k : Nat) (first : List Nat) (g : List Nat → Nat),
    sumF (sumsN b freely k first) g = sumF (tup k (allN b)) fun t => if ((List.range k).all fun c => isN b (first.length + c) freely (t[c]?.getD default)) && (decide ((first ++ t).sum < allN b) && (freely || fitsL b.top (tieN b.base.toNat b.places.toNat (first ++ t).sum))) then g (first ++ t ++ [(first ++ t).sum]) else 0
  | 0, first, g => by
    simp only [sumsN, tup, sumF_cons, sumF_nil, List.range_zero, List.all_nil, Bool.true_and, List.append_nil, Nat.add_zero]
    split
    · rw [sumF_cons, sumF_nil, Nat.add_zero]
    · rfl
  | k + 1, first, g => by
    rw [sumsN, sumF_flatMap, sumF_filter, sumF_tup_succ]
    refine sumF_congr fun n _ => ?_
    rw [sumF_sumsN b freely k (first ++ [n]) g, sumF_if]
    refine sumF_congr fun t _ => ?_
    have e : ((List.range (k + 1)).all fun c => isN b (first.length + c) freely ((n :: t)[c]?.getD default)) = (isN b first.length freely n && (List.range k).all fun c => isN b ((first ++ [n]).length + c) freely (t[c]?.getD default)) := by
      rw [List.range_succ_eq_map, List.all_cons, List.all_map]
      simp only [Nat.add_zero, List.getElem?_cons_zero, Option.getD_some]
      congr 2
      funext c
      simp only [Function.comp_apply, List.getElem?_cons_succ, List.length_append, List.length_cons, List.length_nil]
      rw [show first.length + c.succ = first.length + (0 + 1) + c by omega]
    rw [e]
    simp only [List.append_assoc, List.singleton_append]
    by_cases h : isN b first.length freely n = true
    · simp [h]
    · simp [h]

theorem mem_of_sumF {α : Type} [DecidableEq α] (l : List α) (a : α) : 0 < (sumF l fun x => if x = a then 1 else 0) ↔ a ∈ l := by
  rw [sumF_pos]
  constructor
  · rintro ⟨x, hx, h⟩
    by_cases e : x = a
    · subst e; exact hx
    · rw [if_neg e] at h; omega
  · intro h
    exact ⟨a, h, by simp⟩

/-- Right readings that a loom lets be, counted. -/
theorem solveL_r {b : Bk} (hv : Val b) (may : Nat → Nat → Nat → Bool) (carry : Nat → Nat → Bool) :
    (solveL b may carry).r = ((sumF (allNs b) fun l => if allOK b may carry l then 1 else 0 : Nat) : Int) := by
  have hB : 0 < b.base.toNat := by have := hv.hb; omega
  have hp : 0 < b.base.toNat ^ b.places.toNat := Nat.pow_pos hB
  rw [(solveL_sem hv may carry).1]
  have h0 := solveW_LK b may carry b.places.toNat (Nat.le_refl _)
  rw [Nat.sub_self] at h0
  rw [show [((0 : Nat), (0 : Int))] = LK b may carry 0 from rfl, h0, sumF_LK, allNs, sumF_sumsN]
  congr 1
  refine sumF_congr fun t ht => ?_
  have hl := (tup_mem.1 ht).1
  rw [okT_all hB may carry ht, costT_all hB ht, carT_eq hB _ _ (tup_mem.1 ht).2]
  simp only [List.nil_append, Bool.false_or, List.length_nil, Nat.zero_add]
  have e1 : t.sum / b.base.toNat ^ b.places.toNat = 0 ↔ t.sum < allN b := by
    unfold allN
    rw [Nat.div_eq_zero_iff]
    constructor
    · rintro (h | h)
      · omega
      · exact h
    · exact .inr
  have hnn : ∀ c, 0 ≤ isum b.places.toNat fun p => costL (cordSp b c p) (dgN b (t ++ [t.sum]) c p : Nat) := fun c => isum_nonneg fun p _ => costL_nonneg _ _
  have e2 : costN b (t ++ [t.sum]) = 0 ↔ (((List.range b.cords.length).all fun c => isN b c false (t[c]?.getD default)) && fitsL b.top (tieN b.base.toNat b.places.toNat t.sum)) = true := by
    unfold costN
    rw [isum_eq0 fun c _ => hnn c, Bool.and_eq_true, List.all_eq_true]
    have k1 : ∀ c, c < b.cords.length → (t ++ [t.sum])[c]?.getD default = t[c]?.getD default := fun c hc => by rw [List.getElem?_append_left (by omega)]
    have k2 : (t ++ [t.sum])[b.cords.length]?.getD default = t.sum := by rw [← hl, List.getElem?_append_right (Nat.le_refl _)]; simp
    constructor
    · intro h
      refine ⟨fun c hc => ?_, ?_⟩
      · have hc := List.mem_range.1 hc
        unfold isN
        rw [Bool.false_or, ← k1 c hc]
        exact (fits_cost hv (by omega) _).2 (h c (by omega))
      · have := (fits_cost hv (Nat.le_refl _) (t ++ [t.sum])).2 (h _ (by omega))
        rw [k2] at this
        simpa [cordAt] using this
    · rintro ⟨h1, h2⟩ c hc
      rcases Nat.lt_or_ge c b.cords.length with h | h
      · have := h1 c (List.mem_range.2 h)
        unfold isN at this
        rw [Bool.false_or, ← k1 c h] at this
        exact (fits_cost hv (by omega) _).1 this
      · have hc2 : c = b.cords.length := by omega
        subst hc2
        refine (fits_cost hv (Nat.le_refl _) (t ++ [t.sum])).1 ?_
        rw [k2]
        simpa [cordAt] using h2
  simp only [e1, e2]
  by_cases q1 : allOK b may carry (t ++ [t.sum]) = true
  · simp only [q1, if_true]
    by_cases q2 : t.sum < allN b
    · simp only [q2, true_and, decide_true, Bool.true_and]
    · simp [q2]
  · simp [q1]

/-- The fewest knots, by the lists of any numbers. -/
theorem solveL_k {b : Bk} (hv : Val b) (may : Nat → Nat → Nat → Bool) (carry : Nat → Nat → Bool) :
    (∀ l ∈ sumsN b true b.cords.length [], allOK b may carry l = true → (solveL b may carry).k ≤ costN b l) ∧
    ((solveL b may carry).k = 1048576 ∨ ∃ l ∈ sumsN b true b.cords.length [], allOK b may carry l = true ∧ costN b l = (solveL b may carry).k) := by
  have hB : 0 < b.base.toNat := by have := hv.hb; omega
  have hp : 0 < b.base.toNat ^ b.places.toNat := Nat.pow_pos hB
  obtain ⟨_, s2, s3⟩ := solveL_sem hv may carry
  have h0 := solveW_LK b may carry b.places.toNat (Nat.le_refl _)
  rw [Nat.sub_self] at h0
  rw [show [((0 : Nat), (0 : Int))] = LK b may carry 0 from rfl, h0] at s2 s3
  have e1 : ∀ t : List Nat, t.sum / b.base.toNat ^ b.places.toNat = 0 ↔ t.sum < allN b := by
    intro t
    unfold allN
    rw [Nat.div_eq_zero_iff]
    constructor
    · rintro (h | h)
      · omega
      · exact h
    · exact .inr
  have m1 : ∀ x : Nat × Int, x ∈ LK b may carry b.places.toNat ↔ ∃ t ∈ tup b.cords.length (allN b), allOK b may carry (t ++ [t.sum]) = true ∧ x = (t.sum / b.base.toNat ^ b.places.toNat, costN b (t ++ [t.sum])) := by
    intro x
    rw [← mem_of_sumF, sumF_LK, sumF_pos]
    constructor
    · rintro ⟨t, ht, h⟩
      refine ⟨t, ht, ?_⟩
      rw [okT_all hB may carry ht, costT_all hB ht, carT_eq hB _ _ (tup_mem.1 ht).2] at h
      by_cases q : allOK b may carry (t ++ [t.sum]) = true
      · refine ⟨q, ?_⟩
        rw [if_pos q] at h
        by_cases q2 : (t.sum / b.base.toNat ^ b.places.toNat, costN b (t ++ [t.sum])) = x
        · exact q2.symm
        · rw [if_neg q2] at h; omega
      · rw [if_neg q] at h; omega
    · rintro ⟨t, ht, h1, h2⟩
      refine ⟨t, ht, ?_⟩
      rw [okT_all hB may carry ht, costT_all hB ht, carT_eq hB _ _ (tup_mem.1 ht).2, if_pos h1, if_pos h2.symm]
      omega
  have m2 : ∀ l : List Nat, l ∈ sumsN b true b.cords.length [] ↔ ∃ t ∈ tup b.cords.length (allN b), t.sum < allN b ∧ l = t ++ [t.sum] := by
    intro l
    rw [← mem_of_sumF, sumF_sumsN, sumF_pos]
    have e3 : ∀ t : List Nat, ((List.range b.cords.length).all fun c => isN b (([] : List Nat).length + c) true (t[c]?.getD default)) = true := by
      intro t
      rw [List.all_eq_true]
      intro c _
      rfl
    constructor
    · rintro ⟨t, ht, h⟩
      rw [e3] at h
      simp only [List.nil_append, Bool.true_or, Bool.and_true, Bool.true_and, decide_eq_true_eq] at h
      refine ⟨t, ht, ?_⟩
      by_cases q : t.sum < allN b
      · rw [if_pos q] at h
        by_cases q2 : t ++ [t.sum] = l
        · exact ⟨q, q2.symm⟩
        · rw [if_neg q2] at h; omega
      · rw [if_neg q] at h; omega
    · rintro ⟨t, ht, h1, h2⟩
      refine ⟨t, ht, ?_⟩
      rw [e3]
      simp only [List.nil_append, Bool.true_or, Bool.and_true, Bool.true_and, decide_eq_true_eq]
      rw [if_pos h1, if_pos h2.symm]
      omega
  refine ⟨fun l hl ho => ?_, ?_⟩
  · obtain ⟨t, ht, h1, rfl⟩ := (m2 l).1 hl
    have := s2 (t.sum / b.base.toNat ^ b.places.toNat, costN b (t ++ [t.sum])) ((m1 _).2 ⟨t, ht, ho, rfl⟩) ((e1 t).2 h1)
    exact this
  · rcases s3 with h | ⟨x, hx, h1, h2⟩
    · exact .inl h
    · obtain ⟨t, ht, ho, rfl⟩ := (m1 x).1 hx
      exact .inr ⟨t ++ [t.sum], (m2 _).2 ⟨t, ht, (e1 t).1 h1, rfl⟩, ho, h2⟩

end Go.Proofs.Ytkkiipjfbebipaa

/- The chapter's examples; works. -/
set_option linter.unusedSimpArgs false
set_option linter.unusedVariables false
set_option linter.unnecessarySimpa false
namespace Go.Proofs.Ytkkiipjfbebipaa
open Go Go.V

def bkK : Bk := ⟨10, 2, [[⟨1, 1⟩, ⟨2, 3⟩], [⟨0, 1⟩, ⟨5, 5⟩]], [⟨2, 2⟩, ⟨7, 8⟩]⟩
def bkL : Bk := ⟨10, 1, [[⟨3, 3⟩], [⟨4, 4⟩]], [⟨9, 9⟩]⟩

theorem ckK : checkB bkK = true := by kernel_rfl
theorem ckL : checkB bkL = true := by kernel_rfl
theorem smK : Small bkK := ⟨by decide, by decide, by decide⟩
theorem smL : Small bkL := ⟨by decide, by decide, by decide⟩
theorem allK : allNs bkK = [[12, 15, 27], [13, 15, 28]] := by kernel_rfl

/-! ### by the list of all right readings -/
def manyR (b : Bk) (L : List (List Nat)) (may : Nat → Nat → Nat → Bool) (carry : Nat → Nat → Bool) (c p d : Nat) : Int := ((sumF L fun l => if allOK b (onlyF may c p d) carry l then 1 else 0 : Nat) : Int)
def spanR (b : Bk) (L : List (List Nat)) (may : Nat → Nat → Nat → Bool) (carry : Nat → Nat → Bool) (cord place : Nat) (m : Nat) : Sp :=
  (List.range m).foldl (fun s d => if 0 < manyR b L may carry cord place d then ⟨min s.lo d, max s.hi d⟩ else s) ⟨b.base, 0⟩
def endR (b : Bk) (L : List (List Nat)) (carry : Nat → Nat → Bool) (cord : Nat) (sel : Sp → Int) : Nat → Nat → (Nat → Nat → Nat → Bool) → Int → Int
  | _, 0, _, n => n
  | p, k + 1, may, n => endR b L carry cord sel (p + 1) k (onlyF may cord p (sel (spanR b L may carry cord p b.base.toNat)).toNat) (numL b.base [n, sel (spanR b L may carry cord p b.base.toNat)])

theorem manyD_R {b : Bk} (hv : Val b) (may : Nat → Nat → Nat → Bool) (carry : Nat → Nat → Bool) (c p d : Nat) : manyD b may carry c p d = manyR b (allNs b) may carry c p d := solveL_r hv _ _
theorem spanD_R {b : Bk} (hv : Val b) (may : Nat → Nat → Nat → Bool) (carry : Nat → Nat → Bool) (c p m : Nat) : spanD b may carry c p m = spanR b (allNs b) may carry c p m := by
  unfold spanD spanR
  congr 1
  funext s d
  rw [manyD_R hv]
theorem endF_R {b : Bk} (hv : Val b) (carry : Nat → Nat → Bool) (cord : Nat) (sel : Sp → Int) : ∀ (k p : Nat) (may : Nat → Nat → Nat → Bool) (n : Int), endF b carry cord sel p k may n = endR b (allNs b) carry cord sel p k may n
  | 0, _, _, _ => rfl
  | k + 1, p, may, n => by
    rw [endF, endR, spanD_R hv, endF_R hv carry cord sel k]

def worstR (b : Bk) (L : List (List Nat)) (c p k : Nat) : Int :=
  (List.range k).foldl (fun w d => if 0 < manyR b L yes3 yes2 c p d then max w (manyR b L yes3 yes2 c p d) else w) 0
theorem worstD_R {b : Bk} (hv : Val b) (c p k : Nat) : worstD b c p k = worstR b (allNs b) c p k := by
  unfold worstD worstR
  congr 1
  funext w d
  rw [manyD_R hv]

theorem manyK : (solveL bkK yes3 yes2).r = 2 := by
  rw [solveL_r (val_of_check ckK), allK]
  kernel_rfl

theorem sureK : sureD bkK 1 = ⟨15, 15⟩ := by
  unfold sureD
  rw [endF_R (val_of_check ckK), endF_R (val_of_check ckK), allK]
  kernel_rfl

theorem askK : (askD bkK 3).c = 0 ∧ (askD bkK 3).p = 1 := by
  have h := fun c p k => worstD_R (val_of_check ckK) c p k
  rw [allK] at h
  unfold askD askRow askStep
  simp only [h]
  exact ⟨by kernel_rfl, by kernel_rfl⟩

theorem solveL_k_eq {b : Bk} (hv : Val b) (may : Nat → Nat → Nat → Bool) (carry : Nat → Nat → Bool) (z : Int) (hz : z < 1048576)
    (h1 : ((sumsN b true b.cords.length []).all fun l => !allOK b may carry l || decide (z ≤ costN b l)) = true)
    (h2 : ((sumsN b true b.cords.length []).any fun l => allOK b may carry l && decide (costN b l = z)) = true) : (solveL b may carry).k = z := by
  obtain ⟨k1, k2⟩ := solveL_k hv may carry
  rw [List.all_eq_true] at h1
  obtain ⟨l, hl, h2⟩ := List.any_eq_true.1 h2
  simp only [Bool.and_eq_true, decide_eq_true_eq] at h2
  have a1 := k1 l hl h2.1
  rcases k2 with h | ⟨l', hl', h3, h4⟩
  · omega
  · have := h1 l' hl'
    rw [h3] at this
    simp only [Bool.not_true, Bool.false_or, decide_eq_true_eq] at this
    omega

theorem retieL : (solveL bkL yes3 yes2).k = 2 := solveL_k_eq (val_of_check ckL) _ _ 2 (by decide) (by kernel_rfl) (by kernel_rfl)

theorem blameL0 : blameC bkL 0 = true := by
  unfold blameC
  rw [List.any_eq_true]
  refine ⟨0, by decide, ?_⟩
  rw [List.any_eq_true]
  refine ⟨5, by decide, ?_⟩
  unfold blameAt
  rw [retieL, solveL_k_eq (val_of_check ckL) (onlyF yes3 0 0 5) _ 2 (by decide) (by kernel_rfl) (by kernel_rfl)]
  kernel_rfl

theorem blameL1 : blameC bkL 1 = true := by
  unfold blameC
  rw [List.any_eq_true]
  refine ⟨0, by decide, ?_⟩
  rw [List.any_eq_true]
  refine ⟨6, by decide, ?_⟩
  unfold blameAt
  rw [retieL, solveL_k_eq (val_of_check ckL) (onlyF yes3 1 0 6) _ 2 (by decide) (by kernel_rfl) (by kernel_rfl)]
  kernel_rfl

theorem blameL2 : blameC bkL 2 = true := by
  unfold blameC
  rw [List.any_eq_true]
  refine ⟨0, by decide, ?_⟩
  rw [List.any_eq_true]
  refine ⟨7, by decide, ?_⟩
  unfold blameAt
  rw [retieL, solveL_k_eq (val_of_check ckL) (onlyF yes3 2 0 7) _ 2 (by decide) (by kernel_rfl) (by kernel_rfl)]
  kernel_rfl

theorem blameLL : blameL bkL 3 = [0, 1, 2] := by
  rw [blameL_succ, blameL_succ, blameL_succ, blameL0, blameL1, blameL2]
  rfl

theorem ag25 : aggOf Try.prog 25 = some true := by kernel_rfl
theorem sz25 : szOf Try.prog 25 = some 4 := by kernel_rfl

attribute [go_sem] ag25 sz25

theorem c63 : Ctr Try.prog 63 [] (.tup [KB bkK, KB bkL]) := by
  refine ctr_of_wp hmix Try.func63 m63 rfl ?_
  unfold v63
  simp -failIfUnchanged (disch := first | omega | (simp [wcs_len] <;> omega) | fail) only [go_sem, simprocAttr]
  try rfl

theorem c17 : Ctr Try.prog 17 [] (.bool true) := by
  refine ctr_of_wp hmix Try.func17 m17 rfl ?_
  unfold v17
  simp -failIfUnchanged (disch := first | omega | (simp [wcs_len] <;> omega) | fail) only [go_sem, simprocAttr]
  refine wcall c63 ?_
  simp -failIfUnchanged (disch := first | omega | (simp [wcs_len] <;> omega) | fail) only [go_sem, simprocAttr]
  refine wcall (c42t bkK smK 13) ?_
  rw [if_pos ckK, if_pos (by kernel_rfl), show tieN bkK.base.toNat bkK.places.toNat (13 : Int).toNat = [1, 3] by kernel_rfl]
  simp -failIfUnchanged (disch := first | omega | (simp [wcs_len] <;> omega) | fail) only [go_sem, simprocAttr]
  refine wcall (c34 bkK smK) ?_
  rw [if_pos ckK, manyK]
  simp -failIfUnchanged (disch := first | omega | (simp [wcs_len] <;> omega) | fail) only [go_sem, simprocAttr]
  refine wcall (c35 bkK smK 1) ?_
  unfold ansR
  rw [if_pos ckK, if_pos (by kernel_rfl), if_neg (by rw [manyK]; decide), show (1 : Int).toNat = 1 from rfl, sureK]
  simp -failIfUnchanged (disch := first | omega | (simp [wcs_len] <;> omega) | fail) only [go_sem, simprocAttr]
  refine wcall (c19 bkK smK) ?_
  rw [if_pos ckK, if_neg (by rw [manyK]; decide), show bkK.cords.length + 1 = 3 from rfl, askK.1, askK.2]
  simp -failIfUnchanged (disch := first | omega | (simp [wcs_len] <;> omega) | fail) only [go_sem, simprocAttr]
  refine wcall (c23 bkL smL) ?_
  rw [if_pos ckL, retieL]
  simp -failIfUnchanged (disch := first | omega | (simp [wcs_len] <;> omega) | fail) only [go_sem, simprocAttr]
  refine wcall (c25 bkL smL) ?_
  rw [if_pos ckL, show bkL.cords.length + 1 = 3 from rfl, blameLL, if_neg (by decide)]
  simp -failIfUnchanged (disch := first | omega | (simp [wcs_len] <;> omega) | fail) only [go_sem, simprocAttr]
  refine wcall (c27 [1, 3] [1, 3] (by simp)) ?_
  simp -failIfUnchanged (disch := first | omega | (simp [wcs_len] <;> omega) | fail) only [go_sem, simprocAttr]
  refine wcall (c27 [0, 1, 2] [0, 1, 2] (by simp)) ?_
  simp -failIfUnchanged (disch := first | omega | (simp [wcs_len] <;> omega) | fail) only [go_sem, simprocAttr]

end Go.Proofs.Ytkkiipjfbebipaa

/- The laws' own functions: Huge, Same, Copy. -/
set_option linter.unusedSimpArgs false
set_option linter.unusedVariables false
set_option linter.unnecessarySimpa false
namespace Go.Proofs.Ytkkiipjfbebipaa
open Go Go.V

def hugeB (b : Bk) : Bool := decide (40 < (b.cords.length : Int)) || (decide (40 < (b.top.length : Int)) || b.cords.any fun l => decide (40 < (l.length : Int)))

theorem c48 (b : Bk) (h1 : b.cords.length < 9223372036854775808) : Ctr Try.prog 48 [KB b] (.bool (hugeB b)) := by
  refine ctr_of_wp hmix Try.func48 m48 rfl ?_
  unfold v48 hugeB
  simp -failIfUnchanged (disch := first | omega | (simp [wcs_len] <;> omega) | fail) only [go_sem, simprocAttr]
  refine WGd_bool (fun h => ?_) (fun h => ?_)
  · simp -failIfUnchanged (disch := first | omega | (simp [wcs_len] <;> omega) | fail) only [go_sem, simprocAttr, h]
    refine wcond_dec (fun h2 => ?_) (fun h2 => ?_)
    · simp -failIfUnchanged (disch := first | omega | (simp [wcs_len] <;> omega) | fail) only [go_sem, simprocAttr, h2]
    · have h40 : ¬ 40 < (b.cords.length : Int) := by
        simpa using h
      simp -failIfUnchanged (disch := first | omega | (simp [wcs_len] <;> omega) | fail) only [go_sem, simprocAttr, h2]
      refine wp_loop' Nat (fun i => ⟨[(1, .ptr 1 0), (3, .int i)], [(1, ⟨[.int b.base, .int b.places, .sl 1 (b.cords.map SS) .sh, SS b.top], false⟩)], [], none⟩) (fun i => i ≤ b.cords.length ∧ ∀ x ∈ b.cords.take i, decide (40 < (x.length : Int)) = false) (fun i => b.cords.length - i) 0 (by simp) (by simp -failIfUnchanged (disch := first | omega | (simp [wcs_len] <;> omega) | fail) only [go_sem, simprocAttr]; try rfl) ?_
      rintro i ⟨hi, hpre⟩
      simp -failIfUnchanged (disch := first | omega | (simp [wcs_len] <;> omega) | fail) only [go_sem, simprocAttr]
      refine wcond_dec (fun h3 => ?_) (fun h3 => ?_)
      · have hlt : i < b.cords.length := by omega
        simp -failIfUnchanged (disch := first | omega | (simp [wcs_len] <;> omega) | fail) only [go_sem, simprocAttr]
        refine wcond_dec (fun h4 => ?_) (fun h4 => ?_)
        · simp -failIfUnchanged (disch := first | omega | (simp [wcs_len] <;> omega) | fail) only [go_sem, simprocAttr]
          have : b.cords.any (fun l => decide (40 < (l.length : Int))) = true := List.any_eq_true.2 ⟨_, mem_getD hlt, by simpa using h4⟩
          simp [this]
        · simp -failIfUnchanged (disch := first | omega | (simp [wcs_len] <;> omega) | fail) only [go_sem, simprocAttr]
          refine ⟨i + 1, ⟨by omega, take_succ_all hlt hpre (by simpa using h4)⟩, by dsimp only; omega, ?_⟩
          simp -failIfUnchanged (disch := first | omega | (simp [wcs_len] <;> omega) | fail) only [go_sem, simprocAttr]
          try simp
      · simp -failIfUnchanged (disch := first | omega | (simp [wcs_len] <;> omega) | fail) only [go_sem, simprocAttr]
        have e : i = b.cords.length := by omega
        have : b.cords.any (fun l => decide (40 < (l.length : Int))) = false := by
          rw [List.any_eq_false]
          intro x hx
          have := hpre x (by rw [e, List.take_length]; exact hx)
          simpa using this
        rw [this]
  · simp -failIfUnchanged (disch := first | omega | (simp [wcs_len] <;> omega) | fail) only [go_sem, simprocAttr, h]

/-- A book that is not huge. -/
theorem small_of_huge {b : Bk} (h : hugeB b = false) : b.cords.length ≤ 40 ∧ b.top.length ≤ 40 ∧ ∀ l ∈ b.cords, l.length ≤ 40 := by
  simp only [hugeB, Bool.or_eq_false_iff, decide_eq_false_iff_not, List.any_eq_false, decide_eq_true_eq] at h
  obtain ⟨h1, h2, h3⟩ := h
  exact ⟨by omega, by omega, fun l hl => by have := h3 l hl; omega⟩

theorem small_small {b : Bk} (h : hugeB b = false) : Small b := by
  obtain ⟨h1, h2, h3⟩ := small_of_huge h
  exact ⟨by omega, by omega, fun l hl => by have := h3 l hl; omega⟩

theorem c70 (a b : List Sp) (ha : a.length < 4294967296) : Ctr Try.prog 70 [SS a, SS b] (.bool (decide (a = b))) := by
  refine ctr_of_wp hmix Try.func70 m70 rfl ?_
  unfold v70
  simp -failIfUnchanged (disch := first | omega | (simp [wcs_len] <;> omega) | fail) only [go_sem, simprocAttr]
  refine wcond_dec (fun h => ?_) (fun h => ?_)
  · simp -failIfUnchanged (disch := first | omega | (simp [wcs_len] <;> omega) | fail) only [go_sem, simprocAttr]
    have : a ≠ b := fun e => by subst e; simp at h
    simp [this]
  · simp -failIfUnchanged (disch := first | omega | (simp [wcs_len] <;> omega) | fail) only [go_sem, simprocAttr]
    refine wp_loop' Nat (fun i => ⟨[(0, SS a), (1, SS b), (5, .int i)], [], [], none⟩) (fun i => i ≤ a.length ∧ a.take i = b.take i) (fun i => a.length - i) 0 (by simp) (by simp -failIfUnchanged (disch := first | omega | (simp [wcs_len] <;> omega) | fail) only [go_sem, simprocAttr]; try rfl) ?_
    rintro i ⟨hi, hpre⟩
    simp -failIfUnchanged (disch := first | omega | (simp [wcs_len] <;> omega) | fail) only [go_sem, simprocAttr]
    have hl : a.length = b.length := by omega
    refine wcond_dec (fun h => ?_) (fun h => ?_)
    · have hlt : i < a.length := by omega
      have hlt2 : i < b.length := by omega
      obtain ⟨x, hx⟩ : ∃ x, a[i]?.getD default = x := ⟨_, rfl⟩
      obtain ⟨y, hy⟩ : ∃ y, b[i]?.getD default = y := ⟨_, rfl⟩
      have e1 : a[i]? = some x := by rw [← hx, List.getElem?_eq_getElem hlt]; rfl
      have e2 : b[i]? = some y := by rw [← hy, List.getElem?_eq_getElem hlt2]; rfl
      simp -failIfUnchanged (disch := first | omega | (simp [wcs_len] <;> omega) | fail) only [go_sem, simprocAttr, hx, hy]
      refine wcond_bool (fun h => ?_) (fun h => ?_)
      · simp -failIfUnchanged (disch := first | omega | (simp [wcs_len] <;> omega) | fail) only [go_sem, simprocAttr]
        have : a ≠ b := fun e => by
          subst e
          rw [e1] at e2
          injection e2 with e2
          subst e2
          simp [sameCells] at h
        simp [this]
      · simp -failIfUnchanged (disch := first | omega | (simp [wcs_len] <;> omega) | fail) only [go_sem, simprocAttr]
        refine ⟨i + 1, ⟨by omega, ?_⟩, by dsimp only; omega, ?_⟩
        · have hxy : x = y := by
            obtain ⟨x1, x2⟩ := x
            obtain ⟨y1, y2⟩ := y
            simp [sameCells] at h
            rw [h.1, h.2]
          rw [List.take_add_one, List.take_add_one, hpre, e1, e2, hxy]
        · simp -failIfUnchanged (disch := first | omega | (simp [wcs_len] <;> omega) | fail) only [go_sem, simprocAttr]
          simp
    · simp -failIfUnchanged (disch := first | omega | (simp [wcs_len] <;> omega) | fail) only [go_sem, simprocAttr]
      have e : i = a.length := by omega
      have : a = b := by
        rw [e, List.take_length, hl, List.take_length] at hpre
        exact hpre
      simp [this]

theorem c21 (a b : Bk) (hs : Small a) : Ctr Try.prog 21 [KB a, KB b] (.bool (decide (a = b))) := by
  refine ctr_of_wp hmix Try.func21 m21 rfl ?_
  unfold v21
  have hsc := hs.cords
  simp -failIfUnchanged (disch := first | omega | (simp [wcs_len] <;> omega) | fail) only [go_sem, simprocAttr]
  refine WGd_bool (fun h1 => ?_) (fun h1 => ?_)
  · simp -failIfUnchanged (disch := first | omega | (simp [wcs_len] <;> omega) | fail) only [go_sem, simprocAttr, h1]
    refine WGd_bool (fun h2 => ?_) (fun h2 => ?_)
    · simp -failIfUnchanged (disch := first | omega | (simp [wcs_len] <;> omega) | fail) only [go_sem, simprocAttr, h1, h2]
      refine WGd_bool (fun h3 => ?_) (fun h3 => ?_)
      · simp -failIfUnchanged (disch := first | omega | (simp [wcs_len] <;> omega) | fail) only [go_sem, simprocAttr, h1, h2, h3]
        refine wcall (c70 _ _ hs.top) ?_
        simp -failIfUnchanged (disch := first | omega | (simp [wcs_len] <;> omega) | fail) only [go_sem, simprocAttr, h1, h2, h3]
        refine wcond_dec (fun h4 => ?_) (fun h4 => ?_)
        · simp -failIfUnchanged (disch := first | omega | (simp [wcs_len] <;> omega) | fail) only [go_sem, simprocAttr]
          have : a ≠ b := fun e => by subst e; simp at h4
          simp [this]
        · simp -failIfUnchanged (disch := first | omega | (simp [wcs_len] <;> omega) | fail) only [go_sem, simprocAttr]
          have hb : a.base = b.base := by simpa using h1
          have hp : a.places = b.places := by simpa using h2
          have hl : a.cords.length = b.cords.length := by have : (a.cords.length : Int) = b.cords.length := by simpa using h3
                                                          omega
          have ht : a.top = b.top := by simpa using h4
          refine wp_loop' Nat (fun i => ⟨[(2, .ptr 2 0), (3, .ptr 3 0), (5, .int i)], [(3, ⟨[.int b.base, .int b.places, .sl 1 (b.cords.map SS) .sh, SS b.top], false⟩), (2, ⟨[.int a.base, .int a.places, .sl 1 (a.cords.map SS) .sh, SS a.top], false⟩)], [], none⟩) (fun i => i ≤ a.cords.length ∧ a.cords.take i = b.cords.take i) (fun i => a.cords.length - i) 0 (by simp) (by simp -failIfUnchanged (disch := first | omega | (simp [wcs_len] <;> omega) | fail) only [go_sem, simprocAttr]; try simp) ?_
          rintro i ⟨hi, hpre⟩
          simp -failIfUnchanged (disch := first | omega | (simp [wcs_len] <;> omega) | fail) only [go_sem, simprocAttr]
          refine wcond_dec (fun h => ?_) (fun h => ?_)
          · have hlt : i < a.cords.length := by omega
            have hlt2 : i < b.cords.length := by omega
            simp -failIfUnchanged (disch := first | omega | (simp [wcs_len] <;> omega) | fail) only [go_sem, simprocAttr]
            refine wcall (c70 _ _ (hs.each _ (mem_getD hlt))) ?_
            simp -failIfUnchanged (disch := first | omega | (simp [wcs_len] <;> omega) | fail) only [go_sem, simprocAttr]
            refine wcond_dec (fun h5 => ?_) (fun h5 => ?_)
            · simp -failIfUnchanged (disch := first | omega | (simp [wcs_len] <;> omega) | fail) only [go_sem, simprocAttr]
              have : a ≠ b := fun e => by subst e; simp at h5
              simp [this]
            · simp -failIfUnchanged (disch := first | omega | (simp [wcs_len] <;> omega) | fail) only [go_sem, simprocAttr]
              refine ⟨i + 1, ⟨by omega, ?_⟩, by dsimp only; omega, ?_⟩
              · simp only [Decidable.not_not] at h5
                rw [List.take_add_one, List.take_add_one, hpre]
                rw [List.getElem?_eq_getElem hlt, List.getElem?_eq_getElem hlt2] at h5 ⊢
                simp only [Option.getD_some] at h5
                rw [h5]
              · simp -failIfUnchanged (disch := first | omega | (simp [wcs_len] <;> omega) | fail) only [go_sem, simprocAttr]
                simp
          · simp -failIfUnchanged (disch := first | omega | (simp [wcs_len] <;> omega) | fail) only [go_sem, simprocAttr]
            have e : i = a.cords.length := by omega
            have : a = b := by
              rw [e, List.take_length, hl, List.take_length] at hpre
              obtain ⟨x1, x2, x3, x4⟩ := a
              obtain ⟨y1, y2, y3, y4⟩ := b
              simp_all
            simp [this]
      · simp -failIfUnchanged (disch := first | omega | (simp [wcs_len] <;> omega) | fail) only [go_sem, simprocAttr, h1, h2, h3]
        have : a ≠ b := fun e => by subst e; simp at h3
        simp [this]
    · simp -failIfUnchanged (disch := first | omega | (simp [wcs_len] <;> omega) | fail) only [go_sem, simprocAttr, h1, h2]
      have : a ≠ b := fun e => by subst e; simp at h2
      simp [this]
  · simp -failIfUnchanged (disch := first | omega | (simp [wcs_len] <;> omega) | fail) only [go_sem, simprocAttr, h1]
    have : a ≠ b := fun e => by subst e; simp at h1
    simp [this]

theorem ag25' : aggOf Try.prog 25 = some true := by kernel_rfl
theorem sz25' : szOf Try.prog 25 = some 4 := by kernel_rfl

attribute [go_sem] ag25' sz25'

theorem c18 (b : Bk) (h1 : b.cords.length ≤ 1000000) (h2 : b.top.length ≤ 1000000) (h3 : ∀ l ∈ b.cords, l.length ≤ 1000000) : Ctr Try.prog 18 [KB b] (KB b) := by
  refine ctr_of_wp hmix Try.func18 m18 rfl ?_
  unfold v18
  simp -failIfUnchanged (disch := first | omega | (simp [wcs_len] <;> omega) | fail) only [go_sem, simprocAttr]
  refine wp_loop' (Nat × AV × List (Nat × Nat)) (fun x => ⟨[(1, .ptr 1 0), (2, .ptr 2 0), (3, .ptr 3 0), (4, .int x.1)],
    [(3, ⟨[.int b.base, .int b.places, x.2.1, SS b.top], false⟩), (2, ⟨[.int 0, .int 0, .sl 1 [] .full, .sl 2 [] .full], false⟩), (1, ⟨[.int b.base, .int b.places, .sl 1 (b.cords.map SS) .sh, SS b.top], false⟩)], x.2.2, none⟩)
    (fun x => x.1 ≤ b.cords.length ∧ ((x.1 = 0 ∧ x.2.1 = .sl 1 [] .full ∧ x.2.2 = []) ∨ (0 < x.1 ∧ x.2.1 = .sl 1 ((b.cords.take x.1).map SS) (.own 31) ∧ x.2.2 = [(31, x.1)]))) (fun x => b.cords.length - x.1) (0, .sl 1 [] .full, []) (by simp) (by simp -failIfUnchanged (disch := first | omega | (simp [wcs_len] <;> omega) | fail) only [go_sem, simprocAttr]; try simp) ?_
  rintro ⟨i, sl, tk⟩ ⟨hi, hst⟩
  dsimp only at hi hst ⊢
  have hout : ∀ (m : VM), i = b.cords.length → AV.sl 1 ((b.cords.take i).map SS) .sh = .sl 1 (b.cords.map SS) .sh := by
    intro _ e
    rw [e, List.take_length]
  have htk : i < b.cords.length → (b.cords.take (i + 1)).map SS = (b.cords.take i).map SS ++ [SS (b.cords[i]?.getD default)] := by
    intro h
    rw [List.take_add_one, List.getElem?_eq_getElem h, List.map_append]
    rfl
  rcases hst with ⟨h0, rfl, rfl⟩ | ⟨h0, rfl, rfl⟩
  · subst h0
    simp -failIfUnchanged (disch := first | omega | (simp [wcs_len] <;> omega) | fail) only [go_sem, simprocAttr]
    refine wcond_dec (fun h => ?_) (fun h => ?_)
    · have hlt : 0 < b.cords.length := by omega
      have h3' := h3 _ (mem_getD hlt)
      simp -failIfUnchanged (disch := first | omega | (simp [wcs_len] <;> omega) | fail) only [go_sem, simprocAttr]
      refine ⟨(1, .sl 1 ((b.cords.take 1).map SS) (.own 31), [(31, 1)]), ⟨by dsimp only; omega, .inr ⟨by simp, rfl, rfl⟩⟩, by dsimp only; omega, ?_⟩
      have := htk hlt
      simp only [List.take_zero, List.map_nil, List.nil_append, Nat.zero_add] at this
      rw [this]
      simp -failIfUnchanged (disch := first | omega | (simp [wcs_len] <;> omega) | fail) only [go_sem, simprocAttr]
      try simp
    · simp -failIfUnchanged (disch := first | omega | (simp [wcs_len] <;> omega) | fail) only [go_sem, simprocAttr]
      have e : b.cords.length = 0 := by omega
      have e2 : b.cords = [] := List.eq_nil_of_length_eq_zero e
      simp [e2]
  · simp -failIfUnchanged (disch := first | omega | (simp [wcs_len] <;> omega) | fail) only [go_sem, simprocAttr]
    refine wcond_dec (fun h => ?_) (fun h => ?_)
    · have hlt : i < b.cords.length := by omega
      have h3' := h3 _ (mem_getD hlt)
      have hmin : min i b.cords.length = i := by omega
      simp -failIfUnchanged (disch := first | omega | (simp [wcs_len] <;> omega) | fail) only [go_sem, simprocAttr]
      refine ⟨by rw [List.length_take, hmin], ?_⟩
      rw [List.length_take, hmin]
      refine ⟨(i + 1, .sl 1 ((b.cords.take (i + 1)).map SS) (.own 31), [(31, i + 1)]), ⟨by dsimp only; omega, .inr ⟨by simp, rfl, rfl⟩⟩, by dsimp only; omega, ?_⟩
      rw [htk hlt]
      simp -failIfUnchanged (disch := first | omega | (simp [wcs_len] <;> omega) | fail) only [go_sem, simprocAttr]
      try simp
    · simp -failIfUnchanged (disch := first | omega | (simp [wcs_len] <;> omega) | fail) only [go_sem, simprocAttr]
      have e : i = b.cords.length := by omega
      rw [e, List.take_length]

end Go.Proofs.Ytkkiipjfbebipaa

/- Small laws that several of the texts behind use. -/
set_option linter.unusedSimpArgs false
set_option linter.unusedVariables false
set_option linter.unnecessarySimpa false
namespace Go.Proofs.Ytkkiipjfbebipaa
open Go Go.V

theorem allOK_iff (b : Bk) (may : Nat → Nat → Nat → Bool) (carry : Nat → Nat → Bool) (l : List Nat) : allOK b may carry l = true ↔ ∀ p, p < b.places.toNat → (∀ c, c < b.cords.length + 1 → may c p (dgN b l c p) = true) ∧ carry p (carN b l p) = true := by
  unfold allOK
  simp only [List.all_eq_true, List.mem_range, Bool.and_eq_true]

theorem allOK_only {b : Bk} {may : Nat → Nat → Nat → Bool} {carry : Nat → Nat → Bool} {c p d : Nat} (hc : c ≤ b.cords.length) (hp : p < b.places.toNat) (l : List Nat) :
    allOK b (onlyF may c p d) carry l = (allOK b may carry l && decide (dgN b l c p = d)) := by
  rw [Bool.eq_iff_iff, Bool.and_eq_true, allOK_iff, allOK_iff, decide_eq_true_eq]
  constructor
  · intro h
    refine ⟨fun q hq => ⟨fun e he => ?_, (h q hq).2⟩, ?_⟩
    · have := (h q hq).1 e he
      simp only [onlyF, Bool.and_eq_true] at this
      exact this.1
    · have := (h p hp).1 c (by omega)
      simp only [onlyF, Bool.and_eq_true, Bool.or_eq_true, decide_eq_true_eq] at this
      rcases this.2 with h | h | h
      · exact absurd trivial h
      · exact absurd trivial h
      · exact h
  · rintro ⟨h, h2⟩ q hq
    refine ⟨fun e he => ?_, (h q hq).2⟩
    simp only [onlyF, Bool.and_eq_true, (h q hq).1 e he, true_and, Bool.or_eq_true, decide_eq_true_eq]
    by_cases e1 : e = c
    · by_cases e2 : q = p
      · subst e1 e2; exact .inr (.inr h2)
      · exact .inr (.inl e2)
    · exact .inl e1

theorem allOK_yes (b : Bk) (l : List Nat) : allOK b yes3 yes2 l = true := by
  rw [allOK_iff]
  exact fun _ _ => ⟨fun _ _ => rfl, rfl⟩

theorem take_snoc {α : Type} [Inhabited α] {l : List α} {k : Nat} (h : k < l.length) : l.take (k + 1) = l.take k ++ [l[k]?.getD default] := by
  rw [List.take_add_one, List.getElem?_eq_getElem h]
  rfl

theorem many_len {b : Bk} (hv : Val b) : (solveL b yes3 yes2).r = (allNs b).length := by
  rw [solveL_r hv, ← sumF_len]
  congr 1
  exact sumF_congr fun l _ => by rw [allOK_yes]; rfl

def cntN (b : Bk) (L : List (List Nat)) (c p m d : Nat) : Nat := sumF (L.take m) fun l => if dgN b l c p = d then 1 else 0

theorem cntN_succ {b : Bk} {L : List (List Nat)} {c p i d : Nat} (h : i < L.length) : cntN b L c p (i + 1) d = cntN b L c p i d + if dgN b (L[i]?.getD default) c p = d then 1 else 0 := by
  unfold cntN
  rw [take_snoc h, sumF_append, sumF_cons, sumF_nil, Nat.add_zero]

theorem cntN_le (b : Bk) (L : List (List Nat)) (c p m d : Nat) : cntN b L c p m d ≤ L.length := by
  unfold cntN
  have : sumF (L.take m) (fun l => if dgN b l c p = d then 1 else 0) ≤ sumF (L.take m) fun _ => 1 := sumF_le fun l _ => by split <;> omega
  rw [sumF_len, List.length_take] at this
  omega

theorem manyR_cnt {b : Bk} {c p d : Nat} (hc : c ≤ b.cords.length) (hp : p < b.places.toNat) (L : List (List Nat)) : manyR b L yes3 yes2 c p d = cntN b L c p L.length d := by
  unfold manyR cntN
  rw [List.take_length]
  congr 1
  refine sumF_congr fun l _ => ?_
  rw [allOK_only hc hp, allOK_yes, Bool.true_and]
  simp

end Go.Proofs.Ytkkiipjfbebipaa

/- The reference's Cord; KnotsTie. -/
set_option linter.unusedSimpArgs false
set_option linter.unusedVariables false
set_option linter.unnecessarySimpa false
namespace Go.Proofs.Ytkkiipjfbebipaa
open Go Go.V

end Go.Proofs.Ytkkiipjfbebipaa

/- KnotsTie. -/
set_option linter.unusedSimpArgs false
set_option linter.unusedVariables false
set_option linter.unnecessarySimpa false
namespace Go.Proofs.Ytkkiipjfbebipaa
open Go Go.V

end Go.Proofs.Ytkkiipjfbebipaa

/- A row's arguments: a book, a list of integers, a record of integers. -/
set_option linter.unusedSimpArgs false
set_option linter.unusedVariables false
set_option linter.unnecessarySimpa false
namespace Go.Proofs.Ytkkiipjfbebipaa
open Go Go.V

theorem map_choose {α β γ : Type} {F : α → γ} {G : β → γ} {Q : β → Prop} : ∀ (es : List α), (∀ x ∈ es, ∃ s, F x = G s ∧ Q s) → ∃ l : List β, es.map F = l.map G ∧ l.length = es.length ∧ ∀ s ∈ l, Q s
  | [], _ => ⟨[], rfl, rfl, by simp⟩
  | x :: r, h => by
    obtain ⟨s, h1, h2⟩ := h x (by simp)
    obtain ⟨l, h3, h4, h5⟩ := map_choose r fun y hy => h y (by simp [hy])
    refine ⟨s :: l, by simp [h1, h3], by simp [h4], ?_⟩
    intro t ht
    rcases List.mem_cons.1 ht with rfl | ht
    · exact h2
    · exact h5 t ht

theorem ty_sp {cs : List AV} (h : Ty (.st [.int, .int]) cs) : ∃ s : Sp, cs = [.int s.lo, .int s.hi] := by
  simp only [Ty, TyL] at h
  obtain ⟨a, b, rfl, ⟨n, _, rfl⟩, c, d, rfl, ⟨m, _, rfl⟩, rfl⟩ := h
  exact ⟨⟨n, m⟩, rfl⟩

theorem ty_ss {cs : List AV} (h : Ty (.sl (.st [.int, .int])) cs) : ∃ l : List Sp, cs = [SS l] ∧ l.length < 9223372036854775808 := by
  rw [Ty] at h
  obtain ⟨es, rfl, h1, h2⟩ := h
  obtain ⟨l, h3, h4, _⟩ := map_choose (F := fun x => if TC.isSt (.st [.int, .int]) then AV.agg x else x[0]?.getD .und) (G := SP) (Q := fun _ => True) es (fun x hx => by
    obtain ⟨s, rfl⟩ := ty_sp (h2 x hx)
    exact ⟨s, rfl, trivial⟩)
  refine ⟨l, ?_, by omega⟩
  rw [h3]
  rfl

theorem ty_cs {cs : List AV} (h : Ty (.sl (.sl (.st [.int, .int]))) cs) : ∃ l : List (List Sp), cs = [.sl 1 (l.map SS) .sh] ∧ l.length < 9223372036854775808 ∧ ∀ x ∈ l, x.length < 9223372036854775808 := by
  rw [Ty] at h
  obtain ⟨es, rfl, h1, h2⟩ := h
  obtain ⟨l, h3, h4, h5⟩ := map_choose (F := fun x => if TC.isSt (.sl (.st [.int, .int])) then AV.agg x else x[0]?.getD .und) (G := SS) (Q := fun s => s.length < 9223372036854775808) es (fun x hx => by
    obtain ⟨s, rfl, hs⟩ := ty_ss (h2 x hx)
    exact ⟨s, rfl, hs⟩)
  refine ⟨l, ?_, by omega, h5⟩
  rw [h3]
  rfl

abbrev tcB : TC := .st [.int, .int, .sl (.sl (.st [.int, .int])), .sl (.st [.int, .int])]

theorem ty_book {av : AV} (h : TyV tcB av) : ∃ b : Bk, av = KB b ∧ b.cords.length < 9223372036854775808 ∧ b.top.length < 9223372036854775808 ∧ ∀ x ∈ b.cords, x.length < 9223372036854775808 := by
  obtain ⟨cs, rfl, h⟩ := h
  simp only [TyL] at h
  obtain ⟨a, x, rfl, ha, b, y, rfl, hb, c, z, rfl, hc, d, u, rfl, hd, rfl⟩ := h
  rw [Ty] at ha hb
  obtain ⟨n, _, rfl⟩ := ha
  obtain ⟨m, _, rfl⟩ := hb
  obtain ⟨l, rfl, h1, h2⟩ := ty_cs hc
  obtain ⟨t, rfl, h3⟩ := ty_ss hd
  exact ⟨⟨n, m, l, t⟩, rfl, h1, h3, h2⟩

theorem ty_ask {av : AV} (h : TyV (.st [.int, .int, .int]) av) : ∃ n c p : Int, av = .agg [.int n, .int c, .int p] := by
  obtain ⟨cs, rfl, h⟩ := h
  simp only [TyL] at h
  obtain ⟨a, x, rfl, ha, b, y, rfl, hb, c, z, rfl, hc, rfl⟩ := h
  rw [Ty] at ha hb hc
  obtain ⟨n, _, rfl⟩ := ha
  obtain ⟨m, _, rfl⟩ := hb
  obtain ⟨k, _, rfl⟩ := hc
  exact ⟨n, m, k, rfl⟩

theorem ty_int {av : AV} (h : TyV .int av) : ∃ n : Int, av = .int n ∧ -9223372036854775808 ≤ n ∧ n ≤ 9223372036854775807 := by
  have h' : Ty .int [av] := h
  rw [Ty] at h'
  obtain ⟨n, h1, h2⟩ := h'
  exact ⟨n, by simpa using h2, h1.1, h1.2⟩

theorem laidOutP : laidOutB Try.prog = true := by kernel_rfl

end Go.Proofs.Ytkkiipjfbebipaa

/- KnotsBack. -/
set_option linter.unusedSimpArgs false
set_option linter.unusedVariables false
set_option linter.unnecessarySimpa false
namespace Go.Proofs.Ytkkiipjfbebipaa
open Go Go.V

theorem c28 (b : Bk) (h1 : b.cords.length < 9223372036854775808) : Ctr Try.prog 28 [KB b] (.bool (!hugeB b && checkB b)) := by
  refine ctr_of_wp hmix Try.func28 m28 rfl ?_
  unfold v28
  simp -failIfUnchanged (disch := first | omega | (simp [wcs_len] <;> omega) | fail) only [go_sem, simprocAttr]
  refine wcall (c48 b h1) ?_
  cases hh : hugeB b with
  | true => simp -failIfUnchanged (disch := first | omega | (simp [wcs_len] <;> omega) | fail) only [go_sem, simprocAttr]
  | false =>
    simp -failIfUnchanged (disch := first | omega | (simp [wcs_len] <;> omega) | fail) only [go_sem, simprocAttr]
    refine wcall (c50 b (small_small hh)) ?_
    cases hc : checkB b with
    | true => simp -failIfUnchanged (disch := first | omega | (simp [wcs_len] <;> omega) | fail) only [go_sem, simprocAttr]
    | false => simp -failIfUnchanged (disch := first | omega | (simp [wcs_len] <;> omega) | fail) only [go_sem, simprocAttr]

/-! Tie, and back. -/
theorem numL_tie (B : Nat) (hB : 2 ≤ B ∧ B ≤ 10) : ∀ P n, P ≤ 4 → n < B ^ P → numL (B : Int) (tieN B P n) = n
  | 0, n, _, h => by
    have : n = 0 := by simpa using h
    subst this
    rfl
  | P + 1, n, hP, h => by
    have hn : n / B < B ^ P := by
      rw [Nat.div_lt_iff_lt_mul (by omega), ← Nat.pow_succ]
      exact h
    have hle : B ^ (P + 1) ≤ 10000 := pow_le hB.2 hP
    have ih := numL_tie B hB P (n / B) (by omega) hn
    have e : numL (B : Int) (tieN B (P + 1) n) = w64 (w64 (((n / B : Nat) : Int) * B) + ((n % B : Nat) : Int)) := by
      show numL (B : Int) (tieN B P (n / B) ++ [((n % B : Nat) : Int)]) = _
      unfold numL at ih ⊢
      rw [List.foldl_append, ih]
      rfl
    have hd : B * (n / B) + n % B = n := Nat.div_add_mod n B
    have hm : B * (n / B) ≤ n := by omega
    have e2 : ((n / B : Nat) : Int) * B = ((B * (n / B) : Nat) : Int) := by rw [Nat.mul_comm]; exact (Int.natCast_mul _ _).symm
    rw [e, e2, w64_id (n := ((B * (n / B) : Nat) : Int)) (by omega), w64_id (n := ((B * (n / B) : Nat) : Int) + ((n % B : Nat) : Int)) (by omega)]
    omega

end Go.Proofs.Ytkkiipjfbebipaa

/- Right readings; KnotsRight. -/
set_option linter.unusedSimpArgs false
set_option linter.unusedVariables false
set_option linter.unnecessarySimpa false
namespace Go.Proofs.Ytkkiipjfbebipaa
open Go Go.V

end Go.Proofs.Ytkkiipjfbebipaa

/- The program's Right. -/
set_option linter.unusedSimpArgs false
set_option linter.unusedVariables false
set_option linter.unnecessarySimpa false
namespace Go.Proofs.Ytkkiipjfbebipaa
open Go Go.V

end Go.Proofs.Ytkkiipjfbebipaa

/- The program's Right, walked. -/
set_option linter.unusedSimpArgs false
set_option linter.unusedVariables false
set_option linter.unnecessarySimpa false
namespace Go.Proofs.Ytkkiipjfbebipaa
open Go Go.V

end Go.Proofs.Ytkkiipjfbebipaa

/- KnotsRight. -/
set_option linter.unusedSimpArgs false
set_option linter.unusedVariables false
set_option linter.unnecessarySimpa false
namespace Go.Proofs.Ytkkiipjfbebipaa
open Go Go.V

end Go.Proofs.Ytkkiipjfbebipaa

/- How many readings there can be; Far. -/
set_option linter.unusedSimpArgs false
set_option linter.unusedVariables false
set_option linter.unnecessarySimpa false
namespace Go.Proofs.Ytkkiipjfbebipaa
open Go Go.V

def wS (s : Sp) : Nat := (s.hi - s.lo + 1).toNat
def prodS (l : List Sp) : Nat := l.foldl (fun n s => n * wS s) 1
def farN (b : Bk) (i : Nat) : Nat := (b.cords.take i).foldl (fun n l => n * prodS l) 1
def farP (b : Bk) : Bool := (List.range b.cords.length).any fun i => (List.range (b.cords[i]?.getD default).length).any fun p => decide (400 < farN b i * prodS ((b.cords[i]?.getD default).take (p + 1)))
def farB (b : Bk) : Bool := hugeB b || (checkB b && (farP b || decide (1000 < allN b)))

theorem prodS_snoc (l : List Sp) (s : Sp) : prodS (l ++ [s]) = prodS l * wS s := by
  simp [prodS, List.foldl_append]

theorem farN_succ (b : Bk) {i : Nat} (h : i < b.cords.length) : farN b (i + 1) = farN b i * prodS (b.cords[i]?.getD default) := by
  unfold farN
  rw [take_snoc h, List.foldl_append]
  rfl

theorem farN_le {b : Bk} (h : farP b = false) : ∀ i, i ≤ b.cords.length → farN b i ≤ 400
  | 0, _ => by simp [farN]
  | i + 1, hi => by
    rw [farN_succ b (by omega)]
    have ih := farN_le h i (by omega)
    generalize hc : b.cords[i]?.getD default = c
    rcases Nat.eq_zero_or_pos c.length with h0 | h0
    · have : c = [] := List.eq_nil_of_length_eq_zero h0
      subst this
      simpa [prodS] using ih
    · unfold farP at h
      rw [List.any_eq_false] at h
      have h1 := h i (by simp; omega)
      rw [Bool.not_eq_true, List.any_eq_false] at h1
      have h2 := h1 (c.length - 1) (by rw [hc]; simp; omega)
      rw [hc, show c.length - 1 + 1 = c.length by omega, List.take_length] at h2
      simpa using h2

theorem fitsL_snoc (l : List Sp) (s : Sp) (t : List Int) (d : Int) (h : t.length = l.length) : fitsL (l ++ [s]) (t ++ [d]) = (fitsL l t && within d s.lo s.hi) := by
  unfold fitsL
  rw [List.length_append, List.length_singleton, List.range_succ, List.all_append]
  congr 1
  · rw [Bool.eq_iff_iff, List.all_eq_true, List.all_eq_true]
    constructor
    · intro hh i hi
      have hi' : i < l.length := by simpa using hi
      have := hh i hi
      rw [List.getElem?_append_left hi', List.getElem?_append_left (by omega)] at this
      exact this
    · intro hh i hi
      have hi' : i < l.length := by simpa using hi
      rw [List.getElem?_append_left hi', List.getElem?_append_left (by omega)]
      exact hh i hi
  · simp only [List.all_cons, List.all_nil, Bool.and_true]
    rw [List.getElem?_append_right (Nat.le_refl _), List.getElem?_append_right (by omega), h]
    simp

theorem sumF_mulr {α : Type} (l : List α) (f : α → Nat) (k : Nat) : (sumF l fun a => f a * k) = sumF l f * k := by
  induction l with
  | nil => simp [sumF_nil]
  | cons a r ih => rw [sumF_cons, sumF_cons, ih, Nat.add_mul]

theorem within_count (lo hi : Int) : ∀ B : Nat, (sumF (List.range B) fun r => if within (r : Int) lo hi then 1 else 0) ≤ (min hi ((B : Int) - 1) - max lo 0 + 1).toNat
  | 0 => by simp [sumF_nil]
  | B + 1 => by
    rw [List.range_succ, sumF_append, sumF_cons, sumF_nil]
    have ih := within_count lo hi B
    by_cases h : within (B : Int) lo hi
    · rw [if_pos h]
      have h' : lo ≤ B ∧ (B : Int) ≤ hi := by simpa [within] using h
      omega
    · rw [if_neg h]
      have h' : ¬ (lo ≤ B ∧ (B : Int) ≤ hi) := by simpa [within] using h
      omega

theorem fits_count {B : Nat} (hB : 0 < B) (l : List Sp) : ∀ k, k ≤ l.length → (sumF (List.range (B ^ k)) fun n => if fitsL (l.take k) (tieN B k n) then 1 else 0) ≤ prodS (l.take k)
  | 0, _ => by simp [sumF_cons, sumF_nil, fitsL, prodS]
  | k + 1, hk => by
    rw [take_snoc (by omega), prodS_snoc, Nat.pow_succ, sumF_range_mul]
    generalize l[k]?.getD default = s
    have e : (sumF (List.range (B ^ k)) fun q => sumF (List.range B) fun r => if fitsL (l.take k ++ [s]) (tieN B (k + 1) (q * B + r)) then 1 else 0)
        ≤ sumF (List.range (B ^ k)) fun q => (if fitsL (l.take k) (tieN B k q) then 1 else 0) * wS s := by
      refine sumF_le fun q _ => ?_
      have e2 : (sumF (List.range B) fun r => if fitsL (l.take k ++ [s]) (tieN B (k + 1) (q * B + r)) then 1 else 0) = sumF (List.range B) fun r => if fitsL (l.take k) (tieN B k q) then (if within (r : Int) s.lo s.hi then 1 else 0) else 0 := by
        refine sumF_congr fun r hr => ?_
        have hr' : r < B := List.mem_range.1 hr
        have hd : (q * B + r) / B = q := by rw [Nat.mul_comm, Nat.mul_add_div hB, Nat.div_eq_of_lt hr', Nat.add_zero]
        have hm : (q * B + r) % B = r := by rw [Nat.mul_comm, Nat.mul_add_mod, Nat.mod_eq_of_lt hr']
        rw [tieN, hd, hm, fitsL_snoc _ _ _ _ (by rw [tieN_len, List.length_take]; omega)]
        cases fitsL (l.take k) (tieN B k q) <;> simp
      rw [e2, ← sumF_if]
      by_cases hf : fitsL (l.take k) (tieN B k q)
      · rw [if_pos hf, if_pos hf, Nat.one_mul]
        have := within_count s.lo s.hi B
        unfold wS
        omega
      · rw [if_neg hf, if_neg hf, Nat.zero_mul]
        exact Nat.le_refl _
    refine Nat.le_trans e ?_
    rw [sumF_mulr]
    exact Nat.mul_le_mul_right _ (fits_count hB l k (by omega))

/-- How many numbers can be had of a cord. -/
theorem nums_count {b : Bk} (hv : Val b) {c : Nat} (hc : c ≤ b.cords.length) : ((List.range (allN b)).filter (isN b c false)).length ≤ prodS (cordAt b c) := by
  have hlen := (cordAt_val hv hc).1
  have hP : b.places.toNat = (cordAt b c).length := by omega
  rw [← sumF_len, sumF_filter]
  have := fits_count (B := b.base.toNat) (by have := hv.hb; omega) (cordAt b c) (cordAt b c).length (Nat.le_refl _)
  rw [List.take_length, ← hP] at this
  simpa [isN, allN] using this

theorem sums_count {b : Bk} (hv : Val b) : ∀ (k : Nat) (first : List Nat), first.length + k = b.cords.length → farN b first.length * (sumsN b false k first).length ≤ farN b b.cords.length
  | 0, first, h => by
    have : (sumsN b false 0 first).length ≤ 1 := by
      unfold sumsN
      split <;> simp
    have h2 := Nat.mul_le_mul_left (farN b first.length) this
    rw [show first.length = b.cords.length by omega] at h2 ⊢
    omega
  | k + 1, first, h => by
    have el : (sumsN b false (k + 1) first).length = sumF ((List.range (allN b)).filter (isN b first.length false)) fun n => (sumsN b false k (first ++ [n])).length := by
      rw [sumsN, List.length_flatMap]
      rfl
    rw [el]
    have hc : cordAt b first.length = b.cords[first.length]?.getD default := by
      unfold cordAt
      rw [if_neg (by omega)]
    have h1 := nums_count hv (c := first.length) (by omega)
    rw [hc] at h1
    have ih : ∀ n, farN b (first.length + 1) * (sumsN b false k (first ++ [n])).length ≤ farN b b.cords.length := by
      intro n
      have := sums_count hv k (first ++ [n]) (by simp; omega)
      simpa using this
    rw [farN_succ b (show first.length < b.cords.length by omega)] at ih
    generalize hF : (List.range (allN b)).filter (isN b first.length false) = F at h1
    generalize farN b first.length = A at ih ⊢
    generalize prodS (b.cords[first.length]?.getD default) = p at h1 ih
    have key : ∀ (L : List Nat), A * sumF L (fun a => (sumsN b false k (first ++ [a])).length) * p ≤ L.length * farN b b.cords.length := by
      intro L
      induction L with
      | nil => simp [sumF_nil]
      | cons n r ihr =>
        rw [sumF_cons, Nat.mul_add, Nat.add_mul, List.length_cons, Nat.add_mul, Nat.one_mul]
        have := ih n
        rw [Nat.mul_assoc, Nat.mul_comm p, ← Nat.mul_assoc] at this
        omega
    have h2 := key F
    have h3 : F.length * farN b b.cords.length ≤ p * farN b b.cords.length := Nat.mul_le_mul_right _ h1
    rcases Nat.eq_zero_or_pos p with hp | hp
    · subst hp
      have : F = [] := List.eq_nil_of_length_eq_zero (by omega)
      subst this
      simp [sumF_nil]
    · refine Nat.le_of_mul_le_mul_right (c := p) ?_ hp
      rw [Nat.mul_comm (farN b b.cords.length)]
      exact Nat.le_trans h2 h3

theorem all_count {b : Bk} (hv : Val b) (h : farP b = false) : (allNs b).length ≤ 400 := by
  have h1 := sums_count hv b.cords.length [] (by simp)
  have h2 := farN_le h b.cords.length (Nat.le_refl _)
  have h3 : farN b ([] : List Nat).length = 1 := by simp [farN]
  rw [h3, Nat.one_mul] at h1
  exact Nat.le_trans h1 h2

end Go.Proofs.Ytkkiipjfbebipaa

/- Far. -/
set_option linter.unusedSimpArgs false
set_option linter.unusedVariables false
set_option linter.unnecessarySimpa false
namespace Go.Proofs.Ytkkiipjfbebipaa
open Go Go.V

theorem c16 (b : Bk) (h1 : b.cords.length < 9223372036854775808) : Ctr Try.prog 16 [KB b] (.bool (farB b)) := by
  refine ctr_of_wp hmix Try.func16 m16 rfl ?_
  unfold v16 farB
  simp -failIfUnchanged (disch := first | omega | (simp [wcs_len] <;> omega) | fail) only [go_sem, simprocAttr]
  refine wcall (c48 b h1) ?_
  cases hh : hugeB b with
  | true => simp -failIfUnchanged (disch := first | omega | (simp [wcs_len] <;> omega) | fail) only [go_sem, simprocAttr]
  | false =>
    have hs := small_small hh
    obtain ⟨k1, k2, k3⟩ := small_of_huge hh
    simp -failIfUnchanged (disch := first | omega | (simp [wcs_len] <;> omega) | fail) only [go_sem, simprocAttr]
    refine wcall (c50 b hs) ?_
    cases hc : checkB b with
    | false => simp -failIfUnchanged (disch := first | omega | (simp [wcs_len] <;> omega) | fail) only [go_sem, simprocAttr]
    | true =>
      have hv := val_of_check hc
      have hbb := hv.hb
      simp -failIfUnchanged (disch := first | omega | (simp [wcs_len] <;> omega) | fail) only [go_sem, simprocAttr]
      refine wp_loop' Nat (fun i => ⟨[(1, .ptr 1 0), (3, .int (farN b i)), (4, .int i)], [(1, ⟨[.int b.base, .int b.places, .sl 1 (b.cords.map SS) .sh, SS b.top], false⟩)], [], none⟩) (fun i => i ≤ b.cords.length ∧ farN b i ≤ 400 ∧ ∀ j, j < i → ((List.range (b.cords[j]?.getD default).length).any fun p => decide (400 < farN b j * prodS ((b.cords[j]?.getD default).take (p + 1)))) = false) (fun i => b.cords.length - i) 0 ⟨by simp, by simp [farN], by simp⟩ (by simp -failIfUnchanged (disch := first | omega | (simp [wcs_len] <;> omega) | fail) only [go_sem, simprocAttr]; try simp [farN]) ?_
      rintro i ⟨hi, hn, hpre⟩
      simp -failIfUnchanged (disch := first | omega | (simp [wcs_len] <;> omega) | fail) only [go_sem, simprocAttr]
      refine wcond_dec (fun h5 => ?_) (fun h5 => ?_)
      · have hlt : i < b.cords.length := by omega
        have hcv := cordAt_val hv (n := i) (by omega)
        have hci : cordAt b i = b.cords[i]?.getD default := by
          unfold cordAt
          rw [if_neg (by omega)]
        have hl3 := k3 _ (mem_getD hlt)
        have hfs := farN_succ b hlt
        rw [hci] at hcv
        have hyes : ∀ p, p < (b.cords[i]?.getD default).length → 400 < farN b i * prodS ((b.cords[i]?.getD default).take (p + 1)) → farP b = true := by
          intro p hp hq
          exact List.any_eq_true.2 ⟨i, by simpa using hlt, List.any_eq_true.2 ⟨p, by simpa using hp, by simpa using hq⟩⟩
        generalize hl : b.cords[i]?.getD default = l at *
        obtain ⟨hcv1, hcv2⟩ := hcv
        simp -failIfUnchanged (disch := first | omega | (simp [wcs_len] <;> omega) | fail) only [go_sem, simprocAttr]
        refine wp_loop' Nat (fun p => ⟨[(1, .ptr 1 0), (3, .int (farN b i * prodS (l.take p) : Nat)), (4, .int i), (5, .int p)], [(1, ⟨[.int b.base, .int b.places, .sl 1 (b.cords.map SS) .sh, SS b.top], false⟩)], [], none⟩) (fun p => p ≤ l.length ∧ farN b i * prodS (l.take p) ≤ 400 ∧ ∀ q, q < p → decide (400 < farN b i * prodS (l.take (q + 1))) = false) (fun p => l.length - p) 0 ⟨by simp, by simpa [prodS] using hn, by simp⟩ (by simp -failIfUnchanged (disch := first | omega | (simp [wcs_len] <;> omega) | fail) only [go_sem, simprocAttr]; try simp [prodS]) ?_
        rintro p ⟨hp, hn2, hpre2⟩
        simp -failIfUnchanged (disch := first | omega | (simp [wcs_len] <;> omega) | fail) only [go_sem, simprocAttr, hl]
        refine wcond_dec (fun h7 => ?_) (fun h7 => ?_)
        · have hplt : p < l.length := by omega
          obtain ⟨s1, s2, s3⟩ := hcv2 _ (mem_getD hplt)
          have hsn : prodS (l.take (p + 1)) = prodS (l.take p) * wS (l[p]?.getD default) := by rw [take_snoc hplt, prodS_snoc]
          have hw : (wS (l[p]?.getD default) : Int) = (l[p]?.getD default).hi - (l[p]?.getD default).lo + 1 := by unfold wS; omega
          have hw10 : wS (l[p]?.getD default) ≤ 10 := by omega
          have hnn : farN b i * prodS (l.take (p + 1)) = farN b i * prodS (l.take p) * wS (l[p]?.getD default) := by rw [hsn, Nat.mul_assoc]
          have hy := hyes p hplt
          have hmul : farN b i * prodS (l.take p) * wS (l[p]?.getD default) ≤ 400 * 10 := Nat.mul_le_mul hn2 hw10
          have hcast : ((farN b i * prodS (l.take (p + 1)) : Nat) : Int) = ((farN b i * prodS (l.take p) : Nat) : Int) * ((l[p]?.getD default).hi - (l[p]?.getD default).lo + 1) := by
            rw [hnn, Int.natCast_mul, hw]
          generalize hN : farN b i * prodS (l.take p) = N at *
          generalize hM : farN b i * prodS (l.take (p + 1)) = M at *
          generalize hs0 : l[p]?.getD default = s at *
          have e1 : w64 (s.hi - s.lo) = s.hi - s.lo := w64_id (by omega)
          have e2 : w64 (s.hi - s.lo + 1) = s.hi - s.lo + 1 := w64_id (by omega)
          have e3 : w64 ((N : Int) * (s.hi - s.lo + 1)) = (M : Int) := by
            rw [← hcast]
            exact w64_id (by omega)
          simp -failIfUnchanged (disch := first | omega | (simp [wcs_len] <;> omega) | fail) only [go_sem, simprocAttr, hl, hs0, e1, e2, e3]
          refine wcond_dec (fun h8 => ?_) (fun h8 => ?_)
          · simp -failIfUnchanged (disch := first | omega | (simp [wcs_len] <;> omega) | fail) only [go_sem, simprocAttr]
            simp [hy (by omega)]
          · simp -failIfUnchanged (disch := first | omega | (simp [wcs_len] <;> omega) | fail) only [go_sem, simprocAttr]
            refine ⟨p + 1, ⟨by omega, by omega, fun q hq => ?_⟩, by dsimp only; omega, ?_⟩
            · rcases Nat.lt_or_ge q p with hq2 | hq2
              · exact hpre2 q hq2
              · have : q = p := by omega
                subst this
                rw [hM]
                simpa using by omega
            · dsimp only
              rw [hM]
              simp -failIfUnchanged (disch := first | omega | (simp [wcs_len] <;> omega) | fail) only [go_sem, simprocAttr]
              try simp
        · have e : p = l.length := by omega
          subst e
          rw [List.take_length] at hn2
          rw [List.take_length, ← hfs]
          simp -failIfUnchanged (disch := first | omega | (simp [wcs_len] <;> omega) | fail) only [go_sem, simprocAttr]
          refine ⟨i + 1, ⟨by omega, by rw [hfs]; exact hn2, fun j hj => ?_⟩, by dsimp only; omega, ?_⟩
          · rcases Nat.lt_or_ge j i with hj2 | hj2
            · exact hpre j hj2
            · have : j = i := by omega
              subst this
              rw [hl]
              exact List.any_eq_false.2 fun q hq => by rw [hpre2 q (by simpa using hq)]; simp
          · simp -failIfUnchanged (disch := first | omega | (simp [wcs_len] <;> omega) | fail) only [go_sem, simprocAttr]
            simp
      · have e : i = b.cords.length := by omega
        subst e
        have : farP b = false := List.any_eq_false.2 fun j hj => by rw [hpre j (by simpa using hj)]; simp
        rw [this]
        simp -failIfUnchanged (disch := first | omega | (simp [wcs_len] <;> omega) | fail) only [go_sem, simprocAttr]
        refine wcall (c41 b hv) ?_
        simp -failIfUnchanged (disch := first | omega | (simp [wcs_len] <;> omega) | fail) only [go_sem, simprocAttr]
        try simp
        try omega

end Go.Proofs.Ytkkiipjfbebipaa

/- The reference's Ask. -/
set_option linter.unusedSimpArgs false
set_option linter.unusedVariables false
set_option linter.unnecessarySimpa false
namespace Go.Proofs.Ytkkiipjfbebipaa
open Go Go.V

def wstN (b : Bk) (L : List (List Nat)) (c p : Nat) : Nat → Nat
  | 0 => 0
  | i + 1 => max (wstN b L c p i) (cntN b L c p (i + 1) (dgN b (L[i]?.getD default) c p))
def aStep (b : Bk) (L : List (List Nat)) (c : Nat) (s : As3) (p : Nat) : As3 := if (wstN b L c p L.length : Int) < s.w then ⟨c, p, wstN b L c p L.length⟩ else s
def aRow (b : Bk) (L : List (List Nat)) (c : Nat) (s : As3) (k : Nat) : As3 := (List.range k).foldl (aStep b L c) s
def aAll (b : Bk) (L : List (List Nat)) (k : Nat) : As3 := (List.range k).foldl (fun s c => aRow b L c s b.places.toNat) ⟨0, 0, L.length + 1⟩

theorem aRow_succ (b : Bk) (L : List (List Nat)) (c : Nat) (s : As3) (k : Nat) : aRow b L c s (k + 1) = aStep b L c (aRow b L c s k) k := by
  unfold aRow
  rw [List.range_succ, List.foldl_append]
  rfl

theorem aAll_succ (b : Bk) (L : List (List Nat)) (k : Nat) : aAll b L (k + 1) = aRow b L k (aAll b L k) b.places.toNat := by
  unfold aAll
  rw [List.range_succ, List.foldl_append]
  rfl

theorem wstN_le (b : Bk) (L : List (List Nat)) (c p : Nat) : ∀ m, wstN b L c p m ≤ L.length
  | 0 => Nat.zero_le _
  | m + 1 => by
    have := wstN_le b L c p m
    have := cntN_le b L c p (m + 1) (dgN b (L[m]?.getD default) c p)
    rw [wstN]
    omega

def cnts (b : Bk) (L : List (List Nat)) (c p m : Nat) : List Int := (List.range b.base.toNat).map fun d => ((cntN b L c p m d : Nat) : Int)

theorem cnts_zero (b : Bk) (L : List (List Nat)) (c p : Nat) : cnts b L c p 0 = List.replicate b.base.toNat 0 := by
  unfold cnts cntN
  rw [List.eq_replicate_iff]
  simp [sumF_nil]

theorem cnts_at {b : Bk} {L : List (List Nat)} {c p m d : Nat} (h : d < b.base.toNat) : (cnts b L c p m)[d]?.getD default = (cntN b L c p m d : Int) := by
  unfold cnts
  simp [h]

theorem cnts_succ {b : Bk} {L : List (List Nat)} {c p i : Nat} (h : i < L.length) : cnts b L c p (i + 1) = (cnts b L c p i).set (dgN b (L[i]?.getD default) c p) (cntN b L c p (i + 1) (dgN b (L[i]?.getD default) c p) : Nat) := by
  apply List.ext_getElem
  · simp [cnts]
  · intro d h1 h2
    rw [List.getElem_set]
    simp only [cnts, List.getElem_map, List.getElem_range]
    split
    · next e => rw [e]
    · next e => rw [cntN_succ h, if_neg e, Nat.add_zero]

def askR (b : Bk) : AV := if checkB b then
      if (allNs b).length < 2 then .tup [.int 0, .int 0, .int 3] else .tup [.int (aAll b (allNs b) (b.cords.length + 1)).c, .int (aAll b (allNs b) (b.cords.length + 1)).p, .int 0]
    else .tup [.int 0, .int 0, .int 110]

theorem c20 (b : Bk) (hs : Small b) (hcs : b.cords.length ≤ 1000) (hlen : checkB b = true → (allNs b).length < 4294967296) : Ctr Try.prog 20 [KB b] (askR b) := by
  refine ctr_of_wp hmix Try.func20 m20 rfl ?_
  unfold v20 askR
  simp -failIfUnchanged (disch := first | omega | (simp only [List.length_map, List.length_append, List.length_cons, List.length_nil, List.length_take, List.length_drop, cells_int, cells_bool, cells_agg, cells_sl, cells_clo, cells_und, wcs_len, List.length_replicate, List.length_set]; done) | (simp only [List.length_map, List.length_append, List.length_cons, List.length_nil, List.length_take, List.length_drop, cells_int, cells_bool, cells_agg, cells_sl, cells_clo, cells_und, wcs_len, List.length_replicate, List.length_set]; omega)) only [go_sem, simprocAttr]
  refine wcall (c50 b hs) ?_
  cases hc : checkB b with
  | false => simp -failIfUnchanged (disch := first | omega | (simp only [List.length_map, List.length_append, List.length_cons, List.length_nil, List.length_take, List.length_drop, cells_int, cells_bool, cells_agg, cells_sl, cells_clo, cells_und, wcs_len, List.length_replicate, List.length_set]; done) | (simp only [List.length_map, List.length_append, List.length_cons, List.length_nil, List.length_take, List.length_drop, cells_int, cells_bool, cells_agg, cells_sl, cells_clo, cells_und, wcs_len, List.length_replicate, List.length_set]; omega)) only [go_sem, simprocAttr]
  | true =>
    have hv := val_of_check hc
    obtain ⟨hp1, hp2⟩ := hv.hp
    obtain ⟨hb1, hb2⟩ := hv.hb
    have hall := allN_le hv
    have hl2 := hlen hc
    have hcl := hs.cords
    simp -failIfUnchanged (disch := first | omega | (simp only [List.length_map, List.length_append, List.length_cons, List.length_nil, List.length_take, List.length_drop, cells_int, cells_bool, cells_agg, cells_sl, cells_clo, cells_und, wcs_len, List.length_replicate, List.length_set]; done) | (simp only [List.length_map, List.length_append, List.length_cons, List.length_nil, List.length_take, List.length_drop, cells_int, cells_bool, cells_agg, cells_sl, cells_clo, cells_und, wcs_len, List.length_replicate, List.length_set]; omega)) only [go_sem, simprocAttr]
    have hS : allS b = (allNs b).map nat := allS_eq b
    refine wcall (c68 b hv false b.cords.length [] (by simp) (by simp) (by rw [show sumsF b false b.cords.length [] = allS b from rfl, hS]; simpa using hl2)) ?_
    rw [show sumsF b false b.cords.length [] = allS b from rfl, hS]
    have hmem := @allNs_mem b
    generalize hL : allNs b = L at hl2 hmem
    simp -failIfUnchanged (disch := first | omega | (simp only [List.length_map, List.length_append, List.length_cons, List.length_nil, List.length_take, List.length_drop, cells_int, cells_bool, cells_agg, cells_sl, cells_clo, cells_und, wcs_len, List.length_replicate, List.length_set]; done) | (simp only [List.length_map, List.length_append, List.length_cons, List.length_nil, List.length_take, List.length_drop, cells_int, cells_bool, cells_agg, cells_sl, cells_clo, cells_und, wcs_len, List.length_replicate, List.length_set]; omega)) only [go_sem, simprocAttr]
    refine wcond_dec (fun h => ?_) (fun h => ?_)
    · simp -failIfUnchanged (disch := first | omega | (simp only [List.length_map, List.length_append, List.length_cons, List.length_nil, List.length_take, List.length_drop, cells_int, cells_bool, cells_agg, cells_sl, cells_clo, cells_und, wcs_len, List.length_replicate, List.length_set]; done) | (simp only [List.length_map, List.length_append, List.length_cons, List.length_nil, List.length_take, List.length_drop, cells_int, cells_bool, cells_agg, cells_sl, cells_clo, cells_und, wcs_len, List.length_replicate, List.length_set]; omega)) only [go_sem, simprocAttr]
      have : L.length < 2 := by omega
      simp [this]
    · have h2 : ¬ L.length < 2 := by omega
      rw [if_neg h2]
      simp -failIfUnchanged (disch := first | omega | (simp only [List.length_map, List.length_append, List.length_cons, List.length_nil, List.length_take, List.length_drop, cells_int, cells_bool, cells_agg, cells_sl, cells_clo, cells_und, wcs_len, List.length_replicate, List.length_set]; done) | (simp only [List.length_map, List.length_append, List.length_cons, List.length_nil, List.length_take, List.length_drop, cells_int, cells_bool, cells_agg, cells_sl, cells_clo, cells_und, wcs_len, List.length_replicate, List.length_set]; omega)) only [go_sem, simprocAttr]
      have hcells : ∀ z : As3, AV.int z.c = AV.int z.c := fun _ => rfl
      refine wp_loop' Nat (fun c => ⟨[(1, .ptr 1 0), (2, .int (aAll b L c).c), (3, .int (aAll b L c).p), (6, ISS (L.map nat)), (7, .int (aAll b L c).w), (8, .int c)], [(1, ⟨[.int b.base, .int b.places, .sl 1 (b.cords.map SS) .sh, SS b.top], false⟩)], [], none⟩) (fun c => c ≤ b.cords.length + 1) (fun c => b.cords.length + 1 - c) 0 (by simp) (by simp -failIfUnchanged (disch := first | omega | (simp only [List.length_map, List.length_append, List.length_cons, List.length_nil, List.length_take, List.length_drop, cells_int, cells_bool, cells_agg, cells_sl, cells_clo, cells_und, wcs_len, List.length_replicate, List.length_set]; done) | (simp only [List.length_map, List.length_append, List.length_cons, List.length_nil, List.length_take, List.length_drop, cells_int, cells_bool, cells_agg, cells_sl, cells_clo, cells_und, wcs_len, List.length_replicate, List.length_set]; omega)) only [go_sem, simprocAttr]; try simp [aAll]) ?_
      intro c hcc
      simp -failIfUnchanged (disch := first | omega | (simp only [List.length_map, List.length_append, List.length_cons, List.length_nil, List.length_take, List.length_drop, cells_int, cells_bool, cells_agg, cells_sl, cells_clo, cells_und, wcs_len, List.length_replicate, List.length_set]; done) | (simp only [List.length_map, List.length_append, List.length_cons, List.length_nil, List.length_take, List.length_drop, cells_int, cells_bool, cells_agg, cells_sl, cells_clo, cells_und, wcs_len, List.length_replicate, List.length_set]; omega)) only [go_sem, simprocAttr]
      refine wcond_dec (fun h5 => ?_) (fun h5 => ?_)
      · have hclt : c ≤ b.cords.length := by omega
        simp -failIfUnchanged (disch := first | omega | (simp only [List.length_map, List.length_append, List.length_cons, List.length_nil, List.length_take, List.length_drop, cells_int, cells_bool, cells_agg, cells_sl, cells_clo, cells_und, wcs_len, List.length_replicate, List.length_set]; done) | (simp only [List.length_map, List.length_append, List.length_cons, List.length_nil, List.length_take, List.length_drop, cells_int, cells_bool, cells_agg, cells_sl, cells_clo, cells_und, wcs_len, List.length_replicate, List.length_set]; omega)) only [go_sem, simprocAttr]
        obtain ⟨PL, hPL⟩ : ∃ p : Nat, b.places = p := ⟨b.places.toNat, by omega⟩
        refine wp_loop' Nat (fun p => ⟨[(1, .ptr 1 0), (2, .int (aRow b L c (aAll b L c) p).c), (3, .int (aRow b L c (aAll b L c) p).p), (6, ISS (L.map nat)), (7, .int (aRow b L c (aAll b L c) p).w), (8, .int c), (9, .int p)], [(1, ⟨[.int b.base, .int b.places, .sl 1 (b.cords.map SS) .sh, SS b.top], false⟩)], [], none⟩) (fun p => p ≤ PL) (fun p => PL - p) 0 (by simp) (by simp -failIfUnchanged (disch := first | omega | (simp only [List.length_map, List.length_append, List.length_cons, List.length_nil, List.length_take, List.length_drop, cells_int, cells_bool, cells_agg, cells_sl, cells_clo, cells_und, wcs_len, List.length_replicate, List.length_set]; done) | (simp only [List.length_map, List.length_append, List.length_cons, List.length_nil, List.length_take, List.length_drop, cells_int, cells_bool, cells_agg, cells_sl, cells_clo, cells_und, wcs_len, List.length_replicate, List.length_set]; omega)) only [go_sem, simprocAttr]; try simp [aRow]) ?_
        intro p hpp
        generalize hst : aRow b L c (aAll b L c) p = st
        simp -failIfUnchanged (disch := first | omega | (simp only [List.length_map, List.length_append, List.length_cons, List.length_nil, List.length_take, List.length_drop, cells_int, cells_bool, cells_agg, cells_sl, cells_clo, cells_und, wcs_len, List.length_replicate, List.length_set]; done) | (simp only [List.length_map, List.length_append, List.length_cons, List.length_nil, List.length_take, List.length_drop, cells_int, cells_bool, cells_agg, cells_sl, cells_clo, cells_und, wcs_len, List.length_replicate, List.length_set]; omega)) only [go_sem, simprocAttr]
        refine wcond_dec (fun h6 => ?_) (fun h6 => ?_)
        · have hplt : p < PL := by omega
          simp -failIfUnchanged (disch := first | omega | (simp only [List.length_map, List.length_append, List.length_cons, List.length_nil, List.length_take, List.length_drop, cells_int, cells_bool, cells_agg, cells_sl, cells_clo, cells_und, wcs_len, List.length_replicate, List.length_set]; done) | (simp only [List.length_map, List.length_append, List.length_cons, List.length_nil, List.length_take, List.length_drop, cells_int, cells_bool, cells_agg, cells_sl, cells_clo, cells_und, wcs_len, List.length_replicate, List.length_set]; omega)) only [go_sem, simprocAttr]
          refine wp_loop' Nat (fun i => ⟨[(1, .ptr 1 0), (2, .int st.c), (3, .int st.p), (6, ISS (L.map nat)), (7, .int st.w), (8, .int c), (9, .int p), (10, .bsl 42 0 1 b.base.toNat false), (11, .int (wstN b L c p i)), (12, .int i)],
            [(42, ⟨(cnts b L c p i).map .int, false⟩), (1, ⟨[.int b.base, .int b.places, .sl 1 (b.cords.map SS) .sh, SS b.top], false⟩)], [], none⟩) (fun i => i ≤ L.length) (fun i => L.length - i) 0 (by simp) (by rw [cnts_zero]; simp -failIfUnchanged (disch := first | omega | (simp only [List.length_map, List.length_append, List.length_cons, List.length_nil, List.length_take, List.length_drop, cells_int, cells_bool, cells_agg, cells_sl, cells_clo, cells_und, wcs_len, List.length_replicate, List.length_set]; done) | (simp only [List.length_map, List.length_append, List.length_cons, List.length_nil, List.length_take, List.length_drop, cells_int, cells_bool, cells_agg, cells_sl, cells_clo, cells_und, wcs_len, List.length_replicate, List.length_set]; omega)) only [go_sem, simprocAttr]; try simp [wstN]) ?_
          intro i hi
          have hcl2 : (cnts b L c p i).length = b.base.toNat := by simp [cnts]
          simp -failIfUnchanged (disch := first | omega | (simp only [List.length_map, List.length_append, List.length_cons, List.length_nil, List.length_take, List.length_drop, cells_int, cells_bool, cells_agg, cells_sl, cells_clo, cells_und, wcs_len, List.length_replicate, List.length_set]; done) | (simp only [List.length_map, List.length_append, List.length_cons, List.length_nil, List.length_take, List.length_drop, cells_int, cells_bool, cells_agg, cells_sl, cells_clo, cells_und, wcs_len, List.length_replicate, List.length_set]; omega)) only [go_sem, simprocAttr]
          refine wcond_dec (fun h7 => ?_) (fun h7 => ?_)
          · have hlt : i < L.length := by omega
            obtain ⟨l, hl⟩ : ∃ l, L[i]? = some l := ⟨L[i], List.getElem?_eq_getElem hlt⟩
            have hlm := hmem (List.mem_of_getElem? hl)
            have e0 : L[i]?.getD default = l := by rw [hl]; rfl
            have e1 : (L.map nat)[i]?.getD default = nat l := by simp [hl]
            have hnl : (nat l).length = b.cords.length + 1 := by rw [List.length_map]; exact hlm.1
            have hxl : l[c]?.getD default < allN b := hlm.2 _ (mem_getD (by omega))
            simp -failIfUnchanged (disch := first | omega | (simp only [List.length_map, List.length_append, List.length_cons, List.length_nil, List.length_take, List.length_drop, cells_int, cells_bool, cells_agg, cells_sl, cells_clo, cells_und, wcs_len, List.length_replicate, List.length_set]; done) | (simp only [List.length_map, List.length_append, List.length_cons, List.length_nil, List.length_take, List.length_drop, cells_int, cells_bool, cells_agg, cells_sl, cells_clo, cells_und, wcs_len, List.length_replicate, List.length_set]; omega)) only [go_sem, simprocAttr, e1, nat_get]
            refine wcall (c69 b hv (l[c]?.getD default) (by omega)) ?_
            have htl := tieN_len b.base.toNat b.places.toNat (l[c]?.getD default)
            have eat : (tieN b.base.toNat b.places.toNat (l[c]?.getD default))[p]?.getD default = ((dgN b l c p : Nat) : Int) := tieN_at _ _ _ _ (by omega)
            have hdg : dgN b l c p < b.base.toNat := Nat.mod_lt _ (by omega)
            simp -failIfUnchanged (disch := first | omega | (simp only [List.length_map, List.length_append, List.length_cons, List.length_nil, List.length_take, List.length_drop, cells_int, cells_bool, cells_agg, cells_sl, cells_clo, cells_und, wcs_len, List.length_replicate, List.length_set]; done) | (simp only [List.length_map, List.length_append, List.length_cons, List.length_nil, List.length_take, List.length_drop, cells_int, cells_bool, cells_agg, cells_sl, cells_clo, cells_und, wcs_len, List.length_replicate, List.length_set]; omega)) only [go_sem, simprocAttr, eat]
            have ec := cntN_le b L c p (i + 1) (dgN b l c p)
            have es := cntN_succ (b := b) (c := c) (p := p) (d := dgN b l c p) hlt
            rw [e0, if_pos rfl] at es
            have eca := cnts_at (b := b) (L := L) (c := c) (p := p) (m := i) hdg
            have ew := wstN_le b L c p (i + 1)
            generalize hdd : dgN b l c p = d at *
            have eca2 : ((cnts b L c p i).map AV.int)[d]?.getD .und = .int (cntN b L c p i d) := by
              rw [← eca, List.getElem?_map, List.getElem?_eq_getElem (by omega)]
              rfl
            have eset : ∀ x : Int, (((cnts b L c p i).set d x).map AV.int)[d]?.getD .und = .int x := fun x => by
              simp [hcl2, hdg]
            have ew2 : w64 ((cntN b L c p i d : Int) + 1) = (cntN b L c p (i + 1) d : Int) := by
              rw [es]
              exact w64_id (by omega)
            simp -failIfUnchanged (disch := first | omega | (simp only [List.length_map, List.length_append, List.length_cons, List.length_nil, List.length_take, List.length_drop, cells_int, cells_bool, cells_agg, cells_sl, cells_clo, cells_und, wcs_len, List.length_replicate, List.length_set]; done) | (simp only [List.length_map, List.length_append, List.length_cons, List.length_nil, List.length_take, List.length_drop, cells_int, cells_bool, cells_agg, cells_sl, cells_clo, cells_und, wcs_len, List.length_replicate, List.length_set]; omega)) only [go_sem, simprocAttr, eca2, ew2, eset]
            refine ⟨i + 1, by omega, by dsimp only; omega, ?_⟩
            dsimp only
            rw [cnts_succ hlt, wstN, e0, hdd, show ((max (wstN b L c p i) (cntN b L c p (i + 1) d) : Nat) : Int) = max (wstN b L c p i : Int) (cntN b L c p (i + 1) d : Int) by omega]
            simp -failIfUnchanged (disch := first | omega | (simp only [List.length_map, List.length_append, List.length_cons, List.length_nil, List.length_take, List.length_drop, cells_int, cells_bool, cells_agg, cells_sl, cells_clo, cells_und, wcs_len, List.length_replicate, List.length_set]; done) | (simp only [List.length_map, List.length_append, List.length_cons, List.length_nil, List.length_take, List.length_drop, cells_int, cells_bool, cells_agg, cells_sl, cells_clo, cells_und, wcs_len, List.length_replicate, List.length_set]; omega)) only [go_sem, simprocAttr]
            try simp
          · have e : i = L.length := by omega
            subst e
            have hstep : aRow b L c (aAll b L c) (p + 1) = if (wstN b L c p L.length : Int) < st.w then ⟨c, p, wstN b L c p L.length⟩ else st := by
              rw [aRow_succ, hst]
              rfl
            simp -failIfUnchanged (disch := first | omega | (simp only [List.length_map, List.length_append, List.length_cons, List.length_nil, List.length_take, List.length_drop, cells_int, cells_bool, cells_agg, cells_sl, cells_clo, cells_und, wcs_len, List.length_replicate, List.length_set]; done) | (simp only [List.length_map, List.length_append, List.length_cons, List.length_nil, List.length_take, List.length_drop, cells_int, cells_bool, cells_agg, cells_sl, cells_clo, cells_und, wcs_len, List.length_replicate, List.length_set]; omega)) only [go_sem, simprocAttr]
            refine wcond_dec (fun h8 => ?_) (fun h8 => ?_)
            · rw [if_pos h8] at hstep
              simp -failIfUnchanged (disch := first | omega | (simp only [List.length_map, List.length_append, List.length_cons, List.length_nil, List.length_take, List.length_drop, cells_int, cells_bool, cells_agg, cells_sl, cells_clo, cells_und, wcs_len, List.length_replicate, List.length_set]; done) | (simp only [List.length_map, List.length_append, List.length_cons, List.length_nil, List.length_take, List.length_drop, cells_int, cells_bool, cells_agg, cells_sl, cells_clo, cells_und, wcs_len, List.length_replicate, List.length_set]; omega)) only [go_sem, simprocAttr]
              refine ⟨p + 1, by omega, by dsimp only; omega, ?_⟩
              dsimp only
              rw [hstep]
              simp -failIfUnchanged (disch := first | omega | (simp only [List.length_map, List.length_append, List.length_cons, List.length_nil, List.length_take, List.length_drop, cells_int, cells_bool, cells_agg, cells_sl, cells_clo, cells_und, wcs_len, List.length_replicate, List.length_set]; done) | (simp only [List.length_map, List.length_append, List.length_cons, List.length_nil, List.length_take, List.length_drop, cells_int, cells_bool, cells_agg, cells_sl, cells_clo, cells_und, wcs_len, List.length_replicate, List.length_set]; omega)) only [go_sem, simprocAttr]
              try simp
            · rw [if_neg h8] at hstep
              simp -failIfUnchanged (disch := first | omega | (simp only [List.length_map, List.length_append, List.length_cons, List.length_nil, List.length_take, List.length_drop, cells_int, cells_bool, cells_agg, cells_sl, cells_clo, cells_und, wcs_len, List.length_replicate, List.length_set]; done) | (simp only [List.length_map, List.length_append, List.length_cons, List.length_nil, List.length_take, List.length_drop, cells_int, cells_bool, cells_agg, cells_sl, cells_clo, cells_und, wcs_len, List.length_replicate, List.length_set]; omega)) only [go_sem, simprocAttr]
              refine ⟨p + 1, by omega, by dsimp only; omega, ?_⟩
              dsimp only
              rw [hstep]
              simp -failIfUnchanged (disch := first | omega | (simp only [List.length_map, List.length_append, List.length_cons, List.length_nil, List.length_take, List.length_drop, cells_int, cells_bool, cells_agg, cells_sl, cells_clo, cells_und, wcs_len, List.length_replicate, List.length_set]; done) | (simp only [List.length_map, List.length_append, List.length_cons, List.length_nil, List.length_take, List.length_drop, cells_int, cells_bool, cells_agg, cells_sl, cells_clo, cells_und, wcs_len, List.length_replicate, List.length_set]; omega)) only [go_sem, simprocAttr]
              try simp
        · simp -failIfUnchanged (disch := first | omega | (simp only [List.length_map, List.length_append, List.length_cons, List.length_nil, List.length_take, List.length_drop, cells_int, cells_bool, cells_agg, cells_sl, cells_clo, cells_und, wcs_len, List.length_replicate, List.length_set]; done) | (simp only [List.length_map, List.length_append, List.length_cons, List.length_nil, List.length_take, List.length_drop, cells_int, cells_bool, cells_agg, cells_sl, cells_clo, cells_und, wcs_len, List.length_replicate, List.length_set]; omega)) only [go_sem, simprocAttr]
          have e : p = PL := by omega
          subst e
          refine ⟨c + 1, by omega, by dsimp only; omega, ?_⟩
          dsimp only
          rw [aAll_succ, show b.places.toNat = p by omega, hst]
          simp -failIfUnchanged (disch := first | omega | (simp only [List.length_map, List.length_append, List.length_cons, List.length_nil, List.length_take, List.length_drop, cells_int, cells_bool, cells_agg, cells_sl, cells_clo, cells_und, wcs_len, List.length_replicate, List.length_set]; done) | (simp only [List.length_map, List.length_append, List.length_cons, List.length_nil, List.length_take, List.length_drop, cells_int, cells_bool, cells_agg, cells_sl, cells_clo, cells_und, wcs_len, List.length_replicate, List.length_set]; omega)) only [go_sem, simprocAttr]
          try simp
      · simp -failIfUnchanged (disch := first | omega | (simp only [List.length_map, List.length_append, List.length_cons, List.length_nil, List.length_take, List.length_drop, cells_int, cells_bool, cells_agg, cells_sl, cells_clo, cells_und, wcs_len, List.length_replicate, List.length_set]; done) | (simp only [List.length_map, List.length_append, List.length_cons, List.length_nil, List.length_take, List.length_drop, cells_int, cells_bool, cells_agg, cells_sl, cells_clo, cells_und, wcs_len, List.length_replicate, List.length_set]; omega)) only [go_sem, simprocAttr]
        have e : c = b.cords.length + 1 := by omega
        subst e
        rfl

end Go.Proofs.Ytkkiipjfbebipaa

/- KnotsAsk. -/
set_option linter.unusedSimpArgs false
set_option linter.unusedVariables false
set_option linter.unnecessarySimpa false
namespace Go.Proofs.Ytkkiipjfbebipaa
open Go Go.V

def maxF (f : Nat → Int) (k : Nat) : Int := (List.range k).foldl (fun w d => if 0 < f d then max w (f d) else w) 0

theorem maxF_spec (f : Nat → Int) : ∀ k, 0 ≤ maxF f k ∧ (∀ d, d < k → f d ≤ maxF f k) ∧ (maxF f k = 0 ∨ ∃ d, d < k ∧ f d = maxF f k)
  | 0 => ⟨by simp [maxF], fun d hd => by omega, .inl (by simp [maxF])⟩
  | k + 1 => by
    obtain ⟨h0, h1, h2⟩ := maxF_spec f k
    have e : maxF f (k + 1) = if 0 < f k then max (maxF f k) (f k) else maxF f k := by
      unfold maxF
      rw [List.range_succ, List.foldl_append]
      rfl
    rw [e]
    split
    · refine ⟨by omega, fun d hd => ?_, ?_⟩
      · rcases Nat.lt_or_ge d k with h | h
        · have := h1 d h; omega
        · have : d = k := by omega
          subst this; omega
      · rcases Int.lt_or_le (maxF f k) (f k) with h | h
        · exact .inr ⟨k, by omega, by omega⟩
        · rcases h2 with h2 | ⟨d, hd, h2⟩
          · omega
          · exact .inr ⟨d, by omega, by omega⟩
    · refine ⟨h0, fun d hd => ?_, ?_⟩
      · rcases Nat.lt_or_ge d k with h | h
        · exact h1 d h
        · have : d = k := by omega
          subst this; omega
      · rcases h2 with h2 | ⟨d, hd, h2⟩
        · exact .inl h2
        · exact .inr ⟨d, by omega, h2⟩

theorem wstN_spec {b : Bk} (hB : 0 < b.base.toNat) (L : List (List Nat)) (c p : Nat) : ∀ m, m ≤ L.length →
    (∀ d, cntN b L c p m d ≤ wstN b L c p m) ∧ (wstN b L c p m = 0 ∨ ∃ d, d < b.base.toNat ∧ cntN b L c p m d = wstN b L c p m)
  | 0, _ => ⟨fun d => by simp [cntN, sumF_nil], .inl rfl⟩
  | m + 1, hm => by
    obtain ⟨h1, h2⟩ := wstN_spec hB L c p m (by omega)
    have hs := fun d => cntN_succ (b := b) (c := c) (p := p) (d := d) (show m < L.length by omega)
    have hd : dgN b (L[m]?.getD default) c p < b.base.toNat := Nat.mod_lt _ hB
    have hw : wstN b L c p (m + 1) = max (wstN b L c p m) (cntN b L c p (m + 1) (dgN b (L[m]?.getD default) c p)) := rfl
    rw [hw]
    generalize dgN b (L[m]?.getD default) c p = e at hs hd
    generalize wstN b L c p m = W at h1 h2 ⊢
    have hse := hs e
    rw [if_pos rfl] at hse
    have hse1 := h1 e
    refine ⟨fun d => ?_, ?_⟩
    · by_cases h : e = d
      · subst h; omega
      · have := hs d
        rw [if_neg h] at this
        have := h1 d
        omega
    · rcases Nat.lt_or_ge (cntN b L c p (m + 1) e) W with h | h
      · rcases h2 with h2 | ⟨d, hd2, h2⟩
        · omega
        · by_cases h3 : e = d
          · subst h3; omega
          · have := hs d
            rw [if_neg h3] at this
            exact .inr ⟨d, hd2, by omega⟩
      · exact .inr ⟨e, hd, by omega⟩

theorem worst_eq {b : Bk} (hv : Val b) {c p : Nat} (hc : c ≤ b.cords.length) (hp : p < b.places.toNat) : worstD b c p b.base.toNat = wstN b (allNs b) c p (allNs b).length := by
  rw [worstD_R hv]
  have hB : 0 < b.base.toNat := by have := hv.hb; omega
  obtain ⟨w1, w2⟩ := wstN_spec hB (allNs b) c p _ (Nat.le_refl _)
  have e : worstR b (allNs b) c p b.base.toNat = maxF (fun d => (cntN b (allNs b) c p (allNs b).length d : Int)) b.base.toNat := by
    unfold worstR maxF
    congr 1
    funext w d
    rw [manyR_cnt hc hp]
  rw [e]
  obtain ⟨m0, m1, m2⟩ := maxF_spec (fun d => (cntN b (allNs b) c p (allNs b).length d : Int)) b.base.toNat
  generalize maxF (fun d => (cntN b (allNs b) c p (allNs b).length d : Int)) b.base.toNat = M at m0 m1 m2 ⊢
  have a1 : (wstN b (allNs b) c p (allNs b).length : Int) ≤ M := by
    rcases w2 with w2 | ⟨d, hd, w2⟩
    · omega
    · have := m1 d hd
      omega
  have a2 : M ≤ (wstN b (allNs b) c p (allNs b).length : Int) := by
    rcases m2 with m2 | ⟨d, hd, m2⟩
    · omega
    · have := w1 d
      omega
  omega

/-- The two ways of looking for the place to ask. -/
def AskRel (n : Nat) (s t : As3) : Prop := s.c = t.c ∧ s.p = t.p ∧ ((s.w = t.w ∧ 0 ≤ s.w) ∨ (s.w = -1 ∧ t.w = (n : Int) + 1))

theorem askRel_step {b : Bk} (hv : Val b) {c p : Nat} (hc : c ≤ b.cords.length) (hp : p < b.places.toNat) {s t : As3} (h : AskRel (allNs b).length s t) :
    AskRel (allNs b).length (askStep b c s p) (aStep b (allNs b) c t p) := by
  obtain ⟨h1, h2, h3⟩ := h
  have hw := wstN_le b (allNs b) c p (allNs b).length
  unfold askStep aStep
  rw [worst_eq hv hc hp]
  generalize wstN b (allNs b) c p (allNs b).length = W at hw
  rcases h3 with ⟨h3, h4⟩ | ⟨h3, h4⟩
  · by_cases h : (W : Int) < t.w
    · rw [if_pos (.inr (by omega)), if_pos h]
      exact ⟨rfl, rfl, .inl ⟨rfl, by dsimp only; omega⟩⟩
    · rw [if_neg (by omega), if_neg h]
      exact ⟨h1, h2, .inl ⟨h3, h4⟩⟩
  · rw [if_pos (.inl (by omega)), if_pos (by omega)]
    exact ⟨rfl, rfl, .inl ⟨rfl, by dsimp only; omega⟩⟩

theorem askRel_row {b : Bk} (hv : Val b) {c : Nat} (hc : c ≤ b.cords.length) {s t : As3} (h : AskRel (allNs b).length s t) : ∀ k, k ≤ b.places.toNat →
    AskRel (allNs b).length (askRow b c s k) (aRow b (allNs b) c t k)
  | 0, _ => h
  | k + 1, hk => by
    rw [askRow_succ, aRow_succ]
    exact askRel_step hv hc (by omega) (askRel_row hv hc h k (by omega))

theorem askRel_all {b : Bk} (hv : Val b) : ∀ k, k ≤ b.cords.length + 1 → AskRel (allNs b).length (askD b k) (aAll b (allNs b) k)
  | 0, _ => ⟨rfl, rfl, .inr ⟨rfl, rfl⟩⟩
  | k + 1, hk => by
    rw [askD_succ, aAll_succ]
    exact askRel_row hv (by omega) (askRel_all hv k (by omega)) _ (Nat.le_refl _)

theorem c19r (b : Bk) (hs : Small b) : Ctr Try.prog 19 [KB b] (askR b) := by
  have := c19 b hs
  unfold askR
  cases hc : checkB b with
  | false => simpa [hc] using this
  | true =>
    have hv := val_of_check hc
    rw [many_len hv, hc, if_pos rfl] at this
    rw [if_pos rfl]
    obtain ⟨h1, h2, _⟩ := askRel_all hv (b.cords.length + 1) (Nat.le_refl _)
    rw [h1, h2] at this
    by_cases hl : (allNs b).length < 2
    · rw [if_pos (by omega)] at this
      rw [if_pos hl]
      exact this
    · rw [if_neg (by omega)] at this
      rw [if_neg hl]
      exact this

theorem far_false {b : Bk} (h : farB b = false) : hugeB b = false ∧ (checkB b = true → farP b = false ∧ allN b ≤ 1000) := by
  simp only [farB, Bool.or_eq_false_iff, Bool.and_eq_false_iff, decide_eq_false_iff_not] at h
  refine ⟨h.1, fun hc => ?_⟩
  rw [hc] at h
  rcases h.2 with h2 | h2
  · simp at h2
  · exact ⟨h2.1, by omega⟩

theorem c3 (b : Bk) (h1 : b.cords.length < 9223372036854775808) : Ctr Try.prog 3 [KB b] (.bool true) := by
  refine ctr_of_wp hmix Try.func3 m3 rfl ?_
  unfold v3
  simp -failIfUnchanged (disch := first | omega | (simp [wcs_len] <;> omega) | fail) only [go_sem, simprocAttr]
  refine wcall (c16 b h1) ?_
  cases hf : farB b with
  | true =>
    simp -failIfUnchanged (disch := first | omega | (simp [wcs_len] <;> omega) | fail) only [go_sem, simprocAttr]
    refine wcall c17 ?_
    simp -failIfUnchanged (disch := first | omega | (simp [wcs_len] <;> omega) | fail) only [go_sem, simprocAttr]
  | false =>
    obtain ⟨hh, hf2⟩ := far_false hf
    have hs := small_small hh
    obtain ⟨k1, k2, k3⟩ := small_of_huge hh
    have hr : ∃ x y z : Int, askR b = .tup [.int x, .int y, .int z] := by
      unfold askR
      split
      · split
        · exact ⟨_, _, _, rfl⟩
        · exact ⟨_, _, _, rfl⟩
      · exact ⟨_, _, _, rfl⟩
    obtain ⟨x, y, z, hr⟩ := hr
    simp -failIfUnchanged (disch := first | omega | (simp [wcs_len] <;> omega) | fail) only [go_sem, simprocAttr]
    refine wcall (c18 b (by omega) (by omega) (fun x hx => by have := k3 x hx; omega)) ?_
    simp -failIfUnchanged (disch := first | omega | (simp [wcs_len] <;> omega) | fail) only [go_sem, simprocAttr]
    refine wcall (c19r b hs) ?_
    rw [hr]
    simp -failIfUnchanged (disch := first | omega | (simp [wcs_len] <;> omega) | fail) only [go_sem, simprocAttr]
    refine wcall (c20 b hs (by omega) (fun hc => by have := all_count (val_of_check hc) (hf2 hc).1; omega)) ?_
    rw [hr]
    simp -failIfUnchanged (disch := first | omega | (simp [wcs_len] <;> omega) | fail) only [go_sem, simprocAttr]
    refine wcall (c21 b b hs) ?_
    simp -failIfUnchanged (disch := first | omega | (simp [wcs_len] <;> omega) | fail) only [go_sem, simprocAttr]
    refine wcall c17 ?_
    simp -failIfUnchanged (disch := first | omega | (simp [wcs_len] <;> omega) | fail) only [go_sem, simprocAttr]

end Go.Proofs.Ytkkiipjfbebipaa

/- Sure, Cluster and Carry by the list of right readings. -/
set_option linter.unusedSimpArgs false
set_option linter.unusedVariables false
set_option linter.unnecessarySimpa false
namespace Go.Proofs.Ytkkiipjfbebipaa
open Go Go.V

def spF (base : Int) (Q : Nat → Prop) [DecidablePred Q] (m : Nat) : Sp := (List.range m).foldl (fun s d => if Q d then ⟨min s.lo d, max s.hi d⟩ else s) ⟨base, 0⟩

theorem spF_spec (base : Int) (Q : Nat → Prop) [DecidablePred Q] : ∀ m : Nat, (m : Int) ≤ base →
    ((∀ d, d < m → ¬ Q d) ∧ spF base Q m = ⟨base, 0⟩) ∨ ∃ lo hi : Nat, lo < m ∧ hi < m ∧ Q lo ∧ Q hi ∧ spF base Q m = ⟨lo, hi⟩ ∧ ∀ d, d < m → Q d → lo ≤ d ∧ d ≤ hi
  | 0, _ => .inl ⟨fun d hd => by omega, by simp [spF]⟩
  | m + 1, hm => by
    have e : spF base Q (m + 1) = if Q m then ⟨min (spF base Q m).lo m, max (spF base Q m).hi m⟩ else spF base Q m := by
      unfold spF
      rw [List.range_succ, List.foldl_append]
      rfl
    rw [e]
    rcases spF_spec base Q m (by omega) with ⟨h1, h2⟩ | ⟨lo, hi, h1, h2, h3, h4, h5, h6⟩
    · by_cases hq : Q m
      · refine .inr ⟨m, m, by omega, by omega, hq, hq, ?_, ?_⟩
        · rw [if_pos hq, h2, Sp.mk.injEq]
          dsimp only
          omega
        · intro d hd hqd
          rcases Nat.lt_or_ge d m with h | h
          · exact absurd hqd (h1 d h)
          · omega
      · refine .inl ⟨fun d hd hqd => ?_, by rw [if_neg hq, h2]⟩
        rcases Nat.lt_or_ge d m with h | h
        · exact h1 d h hqd
        · have : d = m := by omega
          subst this; exact hq hqd
    · by_cases hq : Q m
      · refine .inr ⟨lo, m, by omega, by omega, h3, hq, ?_, ?_⟩
        · rw [if_pos hq, h5, Sp.mk.injEq]
          dsimp only
          omega
        · intro d hd hqd
          rcases Nat.lt_or_ge d m with h | h
          · have := h6 d h hqd; omega
          · omega
      · refine .inr ⟨lo, hi, by omega, by omega, h3, h4, by rw [if_neg hq, h5], fun d hd hqd => ?_⟩
        rcases Nat.lt_or_ge d m with h | h
        · exact h6 d h hqd
        · have : d = m := by omega
          subst this; exact absurd hqd hq

theorem manyR_pos {b : Bk} {L : List (List Nat)} {may : Nat → Nat → Nat → Bool} {carry : Nat → Nat → Bool} {c p d : Nat} (hc : c ≤ b.cords.length) (hp : p < b.places.toNat) :
    0 < manyR b L may carry c p d ↔ ∃ l ∈ L, allOK b may carry l = true ∧ dgN b l c p = d := by
  unfold manyR
  have : 0 < ((sumF L fun l => if allOK b (onlyF may c p d) carry l then 1 else 0 : Nat) : Int) ↔ 0 < sumF L fun l => if allOK b (onlyF may c p d) carry l then 1 else 0 := by omega
  rw [this, sumF_pos]
  constructor
  · rintro ⟨l, hl, h⟩
    refine ⟨l, hl, ?_⟩
    split at h
    · next h2 => rwa [allOK_only hc hp, Bool.and_eq_true, decide_eq_true_eq] at h2
    · omega
  · rintro ⟨l, hl, h1, h2⟩
    refine ⟨l, hl, ?_⟩
    rw [allOK_only hc hp, h1, h2]
    simp

/-- The span of the digits of a cluster in the readings that may be. -/
theorem spanR_spec {b : Bk} (hv : Val b) {L : List (List Nat)} {may : Nat → Nat → Nat → Bool} {carry : Nat → Nat → Bool} {c p : Nat} (hc : c ≤ b.cords.length) (hp : p < b.places.toNat)
    (hne : ∃ l ∈ L, allOK b may carry l = true) :
    ∃ lo hi : Nat, lo < b.base.toNat ∧ hi < b.base.toNat ∧ spanR b L may carry c p b.base.toNat = ⟨lo, hi⟩ ∧ (∃ l ∈ L, allOK b may carry l = true ∧ dgN b l c p = lo) ∧ (∃ l ∈ L, allOK b may carry l = true ∧ dgN b l c p = hi) ∧
      ∀ l ∈ L, allOK b may carry l = true → lo ≤ dgN b l c p ∧ dgN b l c p ≤ hi := by
  have hB : 0 < b.base.toNat := by have := hv.hb; omega
  have e : spanR b L may carry c p b.base.toNat = spF b.base (fun d => 0 < manyR b L may carry c p d) b.base.toNat := rfl
  rcases spF_spec b.base (fun d => 0 < manyR b L may carry c p d) b.base.toNat (by omega) with ⟨h1, _⟩ | ⟨lo, hi, h1, h2, h3, h4, h5, h6⟩
  · obtain ⟨l, hl, h⟩ := hne
    exact absurd ((manyR_pos hc hp).2 ⟨l, hl, h, rfl⟩) (h1 _ (Nat.mod_lt _ hB))
  · refine ⟨lo, hi, h1, h2, by rw [e, h5], (manyR_pos hc hp).1 h3, (manyR_pos hc hp).1 h4, fun l hl h => ?_⟩
    exact h6 _ (Nat.mod_lt _ hB) ((manyR_pos hc hp).2 ⟨l, hl, h, rfl⟩)

theorem spanL_spec (l : List Int) (h : 0 < l.length) : ∀ m, 0 < m → m ≤ l.length → (∃ x ∈ l.take m, (spanL l m).lo = x) ∧ (∃ x ∈ l.take m, (spanL l m).hi = x) ∧ ∀ x ∈ l.take m, (spanL l m).lo ≤ x ∧ x ≤ (spanL l m).hi
  | 0, h0, _ => by omega
  | m + 1, _, hm => by
    have e : spanL l (m + 1) = ⟨min (spanL l m).lo (l[m]?.getD default), max (spanL l m).hi (l[m]?.getD default)⟩ := by
      unfold spanL
      rw [take_snoc (by omega), List.foldl_append]
      rfl
    rw [e, take_snoc (show m < l.length by omega)]
    generalize hx : l[m]?.getD default = x
    rcases Nat.eq_zero_or_pos m with h0 | h0
    · subst h0
      have e0 : spanL l 0 = ⟨x, x⟩ := by
        unfold spanL
        rw [List.take_zero, List.foldl_nil, hx]
      rw [e0]
      refine ⟨⟨x, by simp, by dsimp only; omega⟩, ⟨x, by simp, by dsimp only; omega⟩, fun y hy => ?_⟩
      simp only [List.take_zero, List.nil_append, List.mem_singleton] at hy
      subst hy
      dsimp only
      omega
    · obtain ⟨⟨u, hu, h1⟩, ⟨v, hv, h2⟩, h3⟩ := spanL_spec l h m h0 (by omega)
      dsimp only
      refine ⟨?_, ?_, fun y hy => ?_⟩
      · rcases Int.lt_or_le x (spanL l m).lo with h | h
        · exact ⟨x, by simp, by omega⟩
        · exact ⟨u, by simp [hu], by omega⟩
      · rcases Int.lt_or_le (spanL l m).hi x with h | h
        · exact ⟨x, by simp, by omega⟩
        · exact ⟨v, by simp [hv], by omega⟩
      · rcases List.mem_append.1 hy with hy | hy
        · have := h3 y hy
          omega
        · simp only [List.mem_singleton] at hy
          subst hy
          omega

/-- What is the span of a list. -/
theorem spanL_uniq {l : List Int} {lo hi : Int} (h1 : lo ∈ l) (h2 : hi ∈ l) (h3 : ∀ x ∈ l, lo ≤ x ∧ x ≤ hi) : spanL l l.length = ⟨lo, hi⟩ := by
  have h0 : 0 < l.length := List.length_pos_of_mem h1
  obtain ⟨⟨u, hu, e1⟩, ⟨v, hv, e2⟩, e3⟩ := spanL_spec l h0 l.length h0 (Nat.le_refl _)
  rw [List.take_length] at hu hv e3
  have a1 := h3 u hu
  have a2 := h3 v hv
  have a3 := e3 lo h1
  have a4 := e3 hi h2
  generalize spanL l l.length = s at *
  obtain ⟨x, y⟩ := s
  rw [Sp.mk.injEq]
  dsimp only at *
  omega

end Go.Proofs.Ytkkiipjfbebipaa

/- The ends of what a cord has. -/
set_option linter.unusedSimpArgs false
set_option linter.unusedVariables false
set_option linter.unnecessarySimpa false
namespace Go.Proofs.Ytkkiipjfbebipaa
open Go Go.V

theorem numL_two {base : Int} {n e : Nat} (hb : 2 ≤ base ∧ base ≤ 10) (hn : n ≤ 100000) (he : e ≤ 100) : numL base [(n : Int), (e : Int)] = ((n * base.toNat + e : Nat) : Int) := by
  have hB : ((base.toNat : Nat) : Int) = base := by omega
  have h0 : w64 0 = 0 := by decide
  have h1 : n * base.toNat ≤ 100000 * 10 := Nat.mul_le_mul hn (by omega)
  have e1 : (n : Int) * base = ((n * base.toNat : Nat) : Int) := by rw [Int.natCast_mul, hB]
  unfold numL
  simp only [List.foldl_cons, List.foldl_nil, Int.zero_mul, h0, Int.zero_add]
  rw [w64_id (n := (n : Int)) (by omega), e1, w64_id (n := ((n * base.toNat : Nat) : Int)) (by omega), w64_id (by omega)]
  omega

theorem div_step {x N B : Nat} (hN : 0 < N) : x / N = x / (N * B) * B + x / N % B := by
  rw [← Nat.div_div_eq_div_mul, Nat.mul_comm]
  exact (Nat.div_add_mod (x / N) B).symm

theorem endR_lo {b : Bk} (hv : Val b) {L : List (List Nat)} {carry : Nat → Nat → Bool} {cord : Nat} (hc : cord ≤ b.cords.length) (hsm : ∀ l ∈ L, l[cord]?.getD default < allN b) :
    ∀ (k p : Nat) (may : Nat → Nat → Nat → Bool) (n : Nat), p + k = b.places.toNat → (∃ l ∈ L, allOK b may carry l = true) → (∀ l ∈ L, allOK b may carry l = true → l[cord]?.getD default / b.base.toNat ^ k = n) →
      ∃ r : Nat, endR b L carry cord (fun s => s.lo) p k may n = r ∧ (∃ l ∈ L, allOK b may carry l = true ∧ l[cord]?.getD default = r) ∧ ∀ l ∈ L, allOK b may carry l = true → r ≤ l[cord]?.getD default
  | 0, p, may, n, hpk, ⟨l, hl, h⟩, hn => by
    have h1 := hn l hl h
    rw [Nat.pow_zero, Nat.div_one] at h1
    refine ⟨n, rfl, ⟨l, hl, h, h1⟩, fun k hk h2 => ?_⟩
    have := hn k hk h2
    rw [Nat.pow_zero, Nat.div_one] at this
    omega
  | k + 1, p, may, n, hpk, hne, hn => by
    have hB : 0 < b.base.toNat := by have := hv.hb; omega
    have hall := allN_le hv
    obtain ⟨lo, hi, s1, s2, s3, ⟨l0, hl0, hl1, hl2⟩, _, s5⟩ := spanR_spec hv (L := L) (may := may) (carry := carry) hc (show p < b.places.toNat by omega) hne
    have hN : 0 < b.base.toNat ^ k := Nat.pow_pos hB
    have hdg : ∀ l : List Nat, dgN b l cord p = l[cord]?.getD default / b.base.toNat ^ k % b.base.toNat := by
      intro l
      unfold dgN
      rw [show b.places.toNat - 1 - p = k by omega]
    have hdv : ∀ l ∈ L, allOK b may carry l = true → l[cord]?.getD default / b.base.toNat ^ k = n * b.base.toNat + dgN b l cord p := by
      intro l hl h
      rw [hdg, ← hn l hl h, Nat.pow_succ]
      exact div_step hN
    have hnle : n ≤ 10000 := by
      have := hn l0 hl0 hl1
      have h2 := hsm l0 hl0
      have := Nat.div_le_self (l0[cord]?.getD default) (b.base.toNat ^ (k + 1))
      omega
    have hnum := numL_two hv.hb (n := n) (e := lo) (by omega) (by have := hv.hb; omega)
    rw [endR, s3]
    dsimp only
    rw [Int.toNat_natCast, hnum]
    obtain ⟨r, h1, ⟨l, hl, h2, h3⟩, h4⟩ := endR_lo hv (carry := carry) hc hsm k (p + 1) (onlyF may cord p lo) (n * b.base.toNat + lo) (by omega)
      ⟨l0, hl0, by rw [allOK_only hc (by omega), hl1, hl2]; simp⟩ (fun l hl h => by
        rw [allOK_only hc (by omega), Bool.and_eq_true, decide_eq_true_eq] at h
        rw [hdv l hl h.1, h.2])
    refine ⟨r, h1, ⟨l, hl, ?_, h3⟩, fun x hx hx2 => ?_⟩
    · rw [allOK_only hc (by omega), Bool.and_eq_true] at h2
      exact h2.1
    · rcases Nat.lt_or_ge lo (dgN b x cord p) with h | h
      · rw [allOK_only hc (by omega), Bool.and_eq_true, decide_eq_true_eq] at h2
        have d1 := hdv l hl h2.1
        have d2 := hdv x hx hx2
        rw [h2.2] at d1
        have : l[cord]?.getD default / b.base.toNat ^ k < x[cord]?.getD default / b.base.toNat ^ k := by omega
        have := Nat.lt_of_div_lt_div this
        omega
      · have h5 := (s5 x hx hx2).1
        refine h4 x hx ?_
        rw [allOK_only hc (by omega), hx2, Bool.true_and, decide_eq_true_eq]
        omega
theorem endR_hi {b : Bk} (hv : Val b) {L : List (List Nat)} {carry : Nat → Nat → Bool} {cord : Nat} (hc : cord ≤ b.cords.length) (hsm : ∀ l ∈ L, l[cord]?.getD default < allN b) :
    ∀ (k p : Nat) (may : Nat → Nat → Nat → Bool) (n : Nat), p + k = b.places.toNat → (∃ l ∈ L, allOK b may carry l = true) → (∀ l ∈ L, allOK b may carry l = true → l[cord]?.getD default / b.base.toNat ^ k = n) →
      ∃ r : Nat, endR b L carry cord (fun s => s.hi) p k may n = r ∧ (∃ l ∈ L, allOK b may carry l = true ∧ l[cord]?.getD default = r) ∧ ∀ l ∈ L, allOK b may carry l = true → l[cord]?.getD default ≤ r
  | 0, p, may, n, hpk, ⟨l, hl, h⟩, hn => by
    have h1 := hn l hl h
    rw [Nat.pow_zero, Nat.div_one] at h1
    refine ⟨n, rfl, ⟨l, hl, h, h1⟩, fun k hk h2 => ?_⟩
    have := hn k hk h2
    rw [Nat.pow_zero, Nat.div_one] at this
    omega
  | k + 1, p, may, n, hpk, hne, hn => by
    have hB : 0 < b.base.toNat := by have := hv.hb; omega
    have hall := allN_le hv
    obtain ⟨lo, hi, s1, s2, s3, _, ⟨l0, hl0, hl1, hl2⟩, s5⟩ := spanR_spec hv (L := L) (may := may) (carry := carry) hc (show p < b.places.toNat by omega) hne
    have hN : 0 < b.base.toNat ^ k := Nat.pow_pos hB
    have hdg : ∀ l : List Nat, dgN b l cord p = l[cord]?.getD default / b.base.toNat ^ k % b.base.toNat := by
      intro l
      unfold dgN
      rw [show b.places.toNat - 1 - p = k by omega]
    have hdv : ∀ l ∈ L, allOK b may carry l = true → l[cord]?.getD default / b.base.toNat ^ k = n * b.base.toNat + dgN b l cord p := by
      intro l hl h
      rw [hdg, ← hn l hl h, Nat.pow_succ]
      exact div_step hN
    have hnle : n ≤ 10000 := by
      have := hn l0 hl0 hl1
      have h2 := hsm l0 hl0
      have := Nat.div_le_self (l0[cord]?.getD default) (b.base.toNat ^ (k + 1))
      omega
    have hnum := numL_two hv.hb (n := n) (e := hi) (by omega) (by have := hv.hb; omega)
    rw [endR, s3]
    dsimp only
    rw [Int.toNat_natCast, hnum]
    obtain ⟨r, h1, ⟨l, hl, h2, h3⟩, h4⟩ := endR_hi hv (carry := carry) hc hsm k (p + 1) (onlyF may cord p hi) (n * b.base.toNat + hi) (by omega)
      ⟨l0, hl0, by rw [allOK_only hc (by omega), hl1, hl2]; simp⟩ (fun l hl h => by
        rw [allOK_only hc (by omega), Bool.and_eq_true, decide_eq_true_eq] at h
        rw [hdv l hl h.1, h.2])
    refine ⟨r, h1, ⟨l, hl, ?_, h3⟩, fun x hx hx2 => ?_⟩
    · rw [allOK_only hc (by omega), Bool.and_eq_true] at h2
      exact h2.1
    · rcases Nat.lt_or_ge (dgN b x cord p) hi with h | h
      · rw [allOK_only hc (by omega), Bool.and_eq_true, decide_eq_true_eq] at h2
        have d1 := hdv l hl h2.1
        have d2 := hdv x hx hx2
        rw [h2.2] at d1
        have : x[cord]?.getD default / b.base.toNat ^ k < l[cord]?.getD default / b.base.toNat ^ k := by omega
        have := Nat.lt_of_div_lt_div this
        omega
      · have h5 := (s5 x hx hx2).2
        refine h4 x hx ?_
        rw [allOK_only hc (by omega), hx2, Bool.true_and, decide_eq_true_eq]
        omega
theorem sure_eq {b : Bk} (hv : Val b) {c : Nat} (hc : c ≤ b.cords.length) (hne : 0 < (allNs b).length) : sureD b c = spanL (colS b c (allNs b).length) (allNs b).length := by
  have hsm : ∀ l ∈ allNs b, l[c]?.getD default < allN b := by
    intro l hl
    obtain ⟨h1, h2⟩ := allNs_mem hl
    exact h2 _ (mem_getD (by omega))
  have h0 : ∀ l ∈ allNs b, allOK b yes3 yes2 l = true → l[c]?.getD default / b.base.toNat ^ b.places.toNat = 0 := fun l hl _ => Nat.div_eq_of_lt (hsm l hl)
  obtain ⟨x, hx1, ⟨l, hl, _, hl2⟩, hx3⟩ := endR_lo hv (carry := yes2) hc hsm b.places.toNat 0 yes3 0 (by omega) ⟨(allNs b)[0], List.getElem_mem _, allOK_yes b _⟩ h0
  obtain ⟨y, hy1, ⟨k, hk, _, hk2⟩, hy3⟩ := endR_hi hv (carry := yes2) hc hsm b.places.toNat 0 yes3 0 (by omega) ⟨(allNs b)[0], List.getElem_mem _, allOK_yes b _⟩ h0
  have hd : colS b c (allNs b).length = (allNs b).map fun l => ((l[c]?.getD default : Nat) : Int) := by
    unfold colS
    rw [List.take_length]
  have := spanL_uniq (l := (allNs b).map fun l => ((l[c]?.getD default : Nat) : Int)) (lo := x) (hi := y) (List.mem_map.2 ⟨l, hl, by rw [hl2]⟩) (List.mem_map.2 ⟨k, hk, by rw [hk2]⟩) (fun z hz => by
    obtain ⟨l, hl, rfl⟩ := List.mem_map.1 hz
    have := hx3 l hl (allOK_yes b _)
    have := hy3 l hl (allOK_yes b _)
    omega)
  rw [List.length_map] at this
  rw [hd, this]
  unfold sureD
  rw [endF_R hv, endF_R hv]
  have hx1' : endR b (allNs b) yes2 c (fun s => s.lo) 0 b.places.toNat yes3 0 = x := hx1
  have hy1' : endR b (allNs b) yes2 c (fun s => s.hi) 0 b.places.toNat yes3 0 = y := hy1
  rw [hx1', hy1']

end Go.Proofs.Ytkkiipjfbebipaa

/- What is carried: the reference's CarryOf. -/
set_option linter.unusedSimpArgs false
set_option linter.unusedVariables false
set_option linter.unnecessarySimpa false
namespace Go.Proofs.Ytkkiipjfbebipaa
open Go Go.V

def crT (B : Nat) : Nat → List Nat → Nat
  | 0, _ => 0
  | k + 1, t => (crT B k t + (t.map (· / B ^ k % B)).sum) / B

theorem sum_split (N B : Nat) (hN : 0 < N) : ∀ t : List Nat, (t.map (· % (N * B))).sum = (t.map (· / N % B)).sum * N + (t.map (· % N)).sum
  | [] => by simp
  | x :: r => by
    simp only [List.map_cons, List.sum_cons]
    rw [sum_split N B hN r, Nat.add_mul]
    have : x % (N * B) = x / N % B * N + x % N := by
      rw [Nat.mod_mul, Nat.mul_comm]
      omega
    omega

theorem crT_eq {B : Nat} (hB : 0 < B) : ∀ (k : Nat) (t : List Nat), crT B k t = (t.map (· % B ^ k)).sum / B ^ k
  | 0, t => by
    have : (t.map (· % B ^ 0)).sum = 0 := by
      induction t with
      | nil => rfl
      | cons x r ih =>
        rw [List.map_cons, List.sum_cons, ih, Nat.pow_zero, Nat.mod_one]
    rw [this, Nat.zero_div]
    rfl
  | k + 1, t => by
    have hN : 0 < B ^ k := Nat.pow_pos hB
    rw [crT, crT_eq hB k t, Nat.pow_succ, ← Nat.div_div_eq_div_mul, sum_split _ _ hN, Nat.mul_comm _ (B ^ k), Nat.mul_add_div hN, Nat.add_comm]

theorem sum_mod_lt {N : Nat} (hN : 0 < N) : ∀ t : List Nat, (t.map (· % N)).sum ≤ t.length * N
  | [] => by simp
  | x :: r => by
    have := sum_mod_lt hN r
    have := Nat.mod_lt x hN
    simp only [List.map_cons, List.sum_cons, List.length_cons, Nat.add_mul]
    omega

theorem crT_le {B : Nat} (hB : 0 < B) (k : Nat) (t : List Nat) : crT B k t ≤ t.length := by
  rw [crT_eq hB]
  have hN : 0 < B ^ k := Nat.pow_pos hB
  exact Nat.div_le_of_le_mul (by rw [Nat.mul_comm]; exact sum_mod_lt hN t)

theorem carN_cr {b : Bk} (hB : 0 < b.base.toNat) (l : List Nat) (p : Nat) : carN b l p = crT b.base.toNat (b.places.toNat - p) (l.take b.cords.length) := by
  rw [crT_eq hB]
  rfl

end Go.Proofs.Ytkkiipjfbebipaa

/- The reference's Carry. -/
set_option linter.unusedSimpArgs false
set_option linter.unusedVariables false
set_option linter.unnecessarySimpa false
namespace Go.Proofs.Ytkkiipjfbebipaa
open Go Go.V

/-- What is carried to a place in the lists. -/
def crS (b : Bk) (p : Nat) (m : Nat) : List Int := ((allNs b).take m).map fun l => ((carN b l p : Nat) : Int)

/-- What the program says is carried. -/
theorem carryD_spF (b : Bk) (p : Nat) : ∀ k, k ≤ 51 → carryD b p k = spF 51 (fun n => 0 < (solveL b yes3 (carryF p n)).r) k ∧ (carryD b p k).hi ≤ k
  | 0, _ => ⟨by simp [carryD, spF], by simp [carryD]⟩
  | k + 1, hk => by
    obtain ⟨h1, h2⟩ := carryD_spF b p k (by omega)
    have e1 : carryD b p (k + 1) = if 0 < (solveL b yes3 (carryF p k)).r then ⟨min (carryD b p k).lo k, k⟩ else carryD b p k := by
      unfold carryD
      rw [List.range_succ, List.foldl_append]
      rfl
    have e2 : spF 51 (fun n => 0 < (solveL b yes3 (carryF p n)).r) (k + 1) = if 0 < (solveL b yes3 (carryF p k)).r then ⟨min (spF 51 (fun n => 0 < (solveL b yes3 (carryF p n)).r) k).lo k, max (spF 51 (fun n => 0 < (solveL b yes3 (carryF p n)).r) k).hi k⟩ else spF 51 (fun n => 0 < (solveL b yes3 (carryF p n)).r) k := by
      unfold spF
      rw [List.range_succ, List.foldl_append]
      rfl
    rw [e1, e2, ← h1]
    split
    · dsimp only
      refine ⟨?_, by omega⟩
      rw [Sp.mk.injEq]
      omega
    · exact ⟨rfl, by omega⟩

theorem allOK_carry {b : Bk} {p n : Nat} (hp : p < b.places.toNat) (l : List Nat) : allOK b yes3 (carryF p n) l = decide (carN b l p = n) := by
  rw [Bool.eq_iff_iff, allOK_iff, decide_eq_true_eq]
  constructor
  · intro h
    have := (h p hp).2
    simp only [carryF, Bool.or_eq_true, decide_eq_true_eq] at this
    rcases this with h | h
    · exact absurd trivial h
    · exact h
  · intro h q hq
    refine ⟨fun _ _ => rfl, ?_⟩
    simp only [carryF, Bool.or_eq_true, decide_eq_true_eq]
    by_cases e : q = p
    · subst e; exact .inr h
    · exact .inl e

theorem carry_eq {b : Bk} (hv : Val b) {p : Nat} (hp : p < b.places.toNat) (hne : 0 < (allNs b).length) : carryD b p 51 = spanL (crS b p (allNs b).length) (allNs b).length := by
  have hB : 0 < b.base.toNat := by have := hv.hb; omega
  have hcr : ∀ l ∈ allNs b, carN b l p < 51 := by
    intro l hl
    have h1 := crT_le hB (b.places.toNat - p) (l.take b.cords.length)
    have h2 := (allNs_mem hl).1
    have := hv.hc
    rw [carN_cr hB]
    rw [List.length_take] at h1
    omega
  have hpos : ∀ n : Nat, 0 < (solveL b yes3 (carryF p n)).r ↔ ∃ l ∈ allNs b, carN b l p = n := by
    intro n
    rw [solveL_r hv]
    have : 0 < ((sumF (allNs b) fun l => if allOK b yes3 (carryF p n) l then 1 else 0 : Nat) : Int) ↔ 0 < sumF (allNs b) fun l => if allOK b yes3 (carryF p n) l then 1 else 0 := by omega
    rw [this, sumF_pos]
    constructor
    · rintro ⟨l, hl, h⟩
      refine ⟨l, hl, ?_⟩
      split at h
      · next h2 => rwa [allOK_carry hp, decide_eq_true_eq] at h2
      · omega
    · rintro ⟨l, hl, h1⟩
      refine ⟨l, hl, ?_⟩
      rw [allOK_carry hp, h1]
      simp
  rw [(carryD_spF b p 51 (Nat.le_refl _)).1]
  have hd : crS b p (allNs b).length = (allNs b).map fun l => ((carN b l p : Nat) : Int) := by
    unfold crS
    rw [List.take_length]
  rcases spF_spec 51 (fun n => 0 < (solveL b yes3 (carryF p n)).r) 51 (by omega) with ⟨h1, _⟩ | ⟨lo, hi, h1, h2, h3, h4, h5, h6⟩
  · exact absurd ((hpos _).2 ⟨(allNs b)[0], List.getElem_mem _, rfl⟩) (h1 _ (hcr _ (List.getElem_mem _)))
  · obtain ⟨l, hl, e1⟩ := (hpos lo).1 h3
    obtain ⟨k, hk, e2⟩ := (hpos hi).1 h4
    have := spanL_uniq (l := (allNs b).map fun l => ((carN b l p : Nat) : Int)) (lo := lo) (hi := hi) (List.mem_map.2 ⟨l, hl, by rw [e1]⟩) (List.mem_map.2 ⟨k, hk, by rw [e2]⟩) (fun x hx => by
      obtain ⟨m, hm, rfl⟩ := List.mem_map.1 hx
      have := h6 _ (hcr m hm) ((hpos _).2 ⟨m, hm, rfl⟩)
      omega)
    rw [List.length_map] at this
    rw [h5, hd, this]

end Go.Proofs.Ytkkiipjfbebipaa

/- Many, Sure, Cluster and Carry: both ways say the same. -/
set_option linter.unusedSimpArgs false
set_option linter.unusedVariables false
set_option linter.unnecessarySimpa false
namespace Go.Proofs.Ytkkiipjfbebipaa
open Go Go.V

def ansS (b : Bk) (is : Bool) (v : Sp) : Sp × Int := if checkB b then if is then if (allNs b).length = 0 then (⟨0, 0⟩, 3) else (v, 0) else (⟨0, 0⟩, 1) else (⟨0, 0⟩, 110)

theorem ansR_S {b : Bk} (is : Bool) (u v : Sp) (h : checkB b = true → is = true → 0 < (allNs b).length → u = v) : ansR b is (SP ⟨0, 0⟩) (SP u) = .tup [SP (ansS b is v).1, .int (ansS b is v).2] := by
  unfold ansR ansS
  cases hc : checkB b with
  | false => rfl
  | true =>
    cases is with
    | false => rfl
    | true =>
      rw [if_pos rfl, if_pos rfl, if_pos rfl, if_pos rfl, many_len (val_of_check hc)]
      by_cases h0 : (allNs b).length = 0
      · rw [if_pos (by omega), if_pos h0]
      · rw [if_neg (by omega), if_neg h0, h hc rfl (by omega)]

def sureR (b : Bk) (c : Int) : Sp × Int := ansS b (within c 0 b.cords.length) (spanL (colS b c.toNat (allNs b).length) (allNs b).length)
def carrR (b : Bk) (p : Int) : Sp × Int := ansS b (within p 0 (w64 (b.places - 1))) (spanL (crS b p.toNat (allNs b).length) (allNs b).length)
def manyR2 (b : Bk) : Int × Int := if checkB b then ((allNs b).length, 0) else (0, 110)

theorem c34r (b : Bk) (hs : Small b) : Ctr Try.prog 34 [KB b] (.tup [.int (manyR2 b).1, .int (manyR2 b).2]) := by
  have := c34 b hs
  unfold manyR2
  cases hc : checkB b with
  | false => simpa [hc] using this
  | true =>
    rw [many_len (val_of_check hc)] at this
    simpa [hc] using this

theorem c35r (b : Bk) (hs : Small b) (c : Int) : Ctr Try.prog 35 [KB b, .int c] (.tup [SP (sureR b c).1, .int (sureR b c).2]) := by
  have := c35 b hs c
  rwa [ansR_S _ _ (spanL (colS b c.toNat (allNs b).length) (allNs b).length) (fun hc hi hne => sure_eq (val_of_check hc) (by simp [within] at hi; omega) hne)] at this

theorem in_place {b : Bk} (hc : checkB b = true) {p : Int} (hi : within p 0 (w64 (b.places - 1)) = true) : p.toNat < b.places.toNat := by
  have hv := val_of_check hc
  have := hv.hp
  rw [w64_id (by omega)] at hi
  have : 0 ≤ p ∧ p ≤ b.places - 1 := by simpa [within] using hi
  omega

theorem c47r (b : Bk) (hs : Small b) (p : Int) : Ctr Try.prog 47 [KB b, .int p] (.tup [SP (carrR b p).1, .int (carrR b p).2]) := by
  have := c47 b hs p
  rwa [ansR_S _ _ (spanL (crS b p.toNat (allNs b).length) (allNs b).length) (fun hc hi hne => carry_eq (val_of_check hc) (in_place hc hi) hne)] at this

end Go.Proofs.Ytkkiipjfbebipaa

/- The reference's Knots and cost. -/
set_option linter.unusedSimpArgs false
set_option linter.unusedVariables false
set_option linter.unnecessarySimpa false
namespace Go.Proofs.Ytkkiipjfbebipaa
open Go Go.V

theorem isum_le {n : Nat} {f : Nat → Int} {K : Int} (h : ∀ i, i < n → f i ≤ K) : isum n f ≤ n * K := by
  induction n with
  | zero => simp [isum_zero]
  | succ n ih =>
    rw [isum_succ]
    have h1 := ih fun i hi => h i (by omega)
    have h2 := h n (by omega)
    have : ((n + 1 : Nat) : Int) * K = n * K + K := by
      rw [Int.natCast_add, Int.add_mul]
      simp
    omega

def knotsL (l : List Sp) (ds : List Int) (k : Nat) : Int := isum k fun i => costL (l[i]?.getD default) (ds[i]?.getD default)

theorem c75 (l : List Sp) (ds : List Int) (h : ds.length = l.length) (hl : l.length ≤ 1000) (hs : ∀ s ∈ l, 0 ≤ s.lo ∧ s.lo ≤ s.hi ∧ s.hi ≤ 1000) (hd : ∀ d ∈ ds, 0 ≤ d ∧ d ≤ 1000) : Ctr Try.prog 75 [SS l, IS ds] (.int (knotsL l ds l.length)) := by
  refine ctr_of_wp hmix Try.func75 m75 rfl ?_
  unfold v75 IS
  simp -failIfUnchanged (disch := first | omega | (simp only [List.length_map, List.length_append, List.length_cons, List.length_nil, List.length_take, List.length_drop, cells_int, cells_bool, cells_agg, cells_sl, cells_clo, cells_und, wcs_len, List.length_replicate, List.length_set]; done) | (simp only [List.length_map, List.length_append, List.length_cons, List.length_nil, List.length_take, List.length_drop, cells_int, cells_bool, cells_agg, cells_sl, cells_clo, cells_und, wcs_len, List.length_replicate, List.length_set]; omega)) only [go_sem, simprocAttr]
  refine wp_loop' Nat (fun i => ⟨[(0, SS l), (1, IS ds), (5, .int (knotsL l ds i)), (6, .int i)], [], [], none⟩) (fun i => i ≤ l.length) (fun i => l.length - i) 0 (by simp) (by unfold IS; simp -failIfUnchanged (disch := first | omega | (simp only [List.length_map, List.length_append, List.length_cons, List.length_nil, List.length_take, List.length_drop, cells_int, cells_bool, cells_agg, cells_sl, cells_clo, cells_und, wcs_len, List.length_replicate, List.length_set]; done) | (simp only [List.length_map, List.length_append, List.length_cons, List.length_nil, List.length_take, List.length_drop, cells_int, cells_bool, cells_agg, cells_sl, cells_clo, cells_und, wcs_len, List.length_replicate, List.length_set]; omega)) only [go_sem, simprocAttr]; try simp [knotsL, isum_zero]) ?_
  intro i hi
  unfold IS
  simp -failIfUnchanged (disch := first | omega | (simp only [List.length_map, List.length_append, List.length_cons, List.length_nil, List.length_take, List.length_drop, cells_int, cells_bool, cells_agg, cells_sl, cells_clo, cells_und, wcs_len, List.length_replicate, List.length_set]; done) | (simp only [List.length_map, List.length_append, List.length_cons, List.length_nil, List.length_take, List.length_drop, cells_int, cells_bool, cells_agg, cells_sl, cells_clo, cells_und, wcs_len, List.length_replicate, List.length_set]; omega)) only [go_sem, simprocAttr]
  refine wcond_dec (fun h1 => ?_) (fun h1 => ?_)
  · have hlt : i < l.length := by omega
    obtain ⟨s1, s2, s3⟩ := hs _ (mem_getD hlt)
    obtain ⟨d1, d2⟩ := hd _ (mem_getD (show i < ds.length by omega))
    have hk0 : 0 ≤ knotsL l ds i := isum_nonneg fun j _ => costL_nonneg _ _
    have hk1 : knotsL l ds i ≤ i * 1000 := isum_le fun j hj => by
      obtain ⟨a1, a2, a3⟩ := hs _ (mem_getD (show j < l.length by omega))
      obtain ⟨b1, b2⟩ := hd _ (mem_getD (show j < ds.length by omega))
      unfold costL
      omega
    have hsucc : knotsL l ds (i + 1) = knotsL l ds i + costL (l[i]?.getD default) (ds[i]?.getD default) := isum_succ _ _
    unfold costL at hsucc
    generalize hs0 : l[i]?.getD default = s at *
    generalize hd0 : ds[i]?.getD default = d at *
    generalize knotsL l ds i = K at *
    simp -failIfUnchanged (disch := first | omega | (simp only [List.length_map, List.length_append, List.length_cons, List.length_nil, List.length_take, List.length_drop, cells_int, cells_bool, cells_agg, cells_sl, cells_clo, cells_und, wcs_len, List.length_replicate, List.length_set]; done) | (simp only [List.length_map, List.length_append, List.length_cons, List.length_nil, List.length_take, List.length_drop, cells_int, cells_bool, cells_agg, cells_sl, cells_clo, cells_und, wcs_len, List.length_replicate, List.length_set]; omega)) only [go_sem, simprocAttr, hs0, hd0]
    refine ⟨i + 1, by omega, by dsimp only; omega, ?_⟩
    dsimp only
    rw [hsucc]
    simp -failIfUnchanged (disch := first | omega | (simp only [List.length_map, List.length_append, List.length_cons, List.length_nil, List.length_take, List.length_drop, cells_int, cells_bool, cells_agg, cells_sl, cells_clo, cells_und, wcs_len, List.length_replicate, List.length_set]; done) | (simp only [List.length_map, List.length_append, List.length_cons, List.length_nil, List.length_take, List.length_drop, cells_int, cells_bool, cells_agg, cells_sl, cells_clo, cells_und, wcs_len, List.length_replicate, List.length_set]; omega)) only [go_sem, simprocAttr]
    try simp
  · have e : i = l.length := by omega
    subst e
    simp -failIfUnchanged (disch := first | omega | (simp only [List.length_map, List.length_append, List.length_cons, List.length_nil, List.length_take, List.length_drop, cells_int, cells_bool, cells_agg, cells_sl, cells_clo, cells_und, wcs_len, List.length_replicate, List.length_set]; done) | (simp only [List.length_map, List.length_append, List.length_cons, List.length_nil, List.length_take, List.length_drop, cells_int, cells_bool, cells_agg, cells_sl, cells_clo, cells_und, wcs_len, List.length_replicate, List.length_set]; omega)) only [go_sem, simprocAttr]

/-- A sum that may be of any function. -/
theorem knotsL_bd {b : Bk} (hv : Val b) {c : Nat} (hc : c ≤ b.cords.length) (l : List Nat) : 0 ≤ (isum b.places.toNat fun p => costL (cordSp b c p) (dgN b l c p : Nat)) ∧ (isum b.places.toNat fun p => costL (cordSp b c p) (dgN b l c p : Nat)) ≤ 40 := by
  have hbb := hv.hb
  have hpp := hv.hp
  obtain ⟨h1, h2⟩ := cordAt_val hv hc
  refine ⟨isum_nonneg fun p _ => costL_nonneg _ _, ?_⟩
  have : (isum b.places.toNat fun p => costL (cordSp b c p) (dgN b l c p : Nat)) ≤ (b.places.toNat : Int) * 10 := isum_le fun p hp => by
    obtain ⟨s1, s2, s3⟩ := h2 _ (mem_getD (show p < (cordAt b c).length by omega))
    have : dgN b l c p < b.base.toNat := Nat.mod_lt _ (by omega)
    unfold costL cordSp
    omega
  omega

theorem knotsL_tie {b : Bk} (hv : Val b) {c : Nat} (hc : c ≤ b.cords.length) (l : List Nat) : knotsL (cordAt b c) (tieN b.base.toNat b.places.toNat (l[c]?.getD default)) (cordAt b c).length = isum b.places.toNat fun p => costL (cordSp b c p) (dgN b l c p : Nat) := by
  have h1 := (cordAt_val hv hc).1
  have hpp := hv.hp
  unfold knotsL
  rw [show (cordAt b c).length = b.places.toNat by omega]
  refine isum_congr fun p hp => ?_
  rw [tieN_at _ _ _ _ hp]
  rfl

theorem c75r (b : Bk) (hv : Val b) {c : Nat} (hc : c ≤ b.cords.length) (l : List Nat) : Ctr Try.prog 75 [SS (cordAt b c), IS (tieN b.base.toNat b.places.toNat (l[c]?.getD default))] (.int (isum b.places.toNat fun p => costL (cordSp b c p) (dgN b l c p : Nat))) := by
  obtain ⟨h1, h2⟩ := cordAt_val hv hc
  have hbb := hv.hb
  have hpp := hv.hp
  have := c75 (cordAt b c) (tieN b.base.toNat b.places.toNat (l[c]?.getD default)) (by rw [tieN_len]; omega) (by omega) (fun s hs => by have := h2 s hs; omega) (fun d hd => by
    obtain ⟨i, hi, rfl⟩ := List.mem_iff_getElem.1 hd
    have hi' : i < b.places.toNat := by rwa [tieN_len] at hi
    have := tieN_at b.base.toNat b.places.toNat (l[c]?.getD default) i hi'
    rw [List.getElem?_eq_getElem hi, Option.getD_some] at this
    rw [this]
    have := Nat.mod_lt (l[c]?.getD default / b.base.toNat ^ (b.places.toNat - 1 - i)) (show 0 < b.base.toNat by omega)
    omega)
  rwa [knotsL_tie hv hc] at this

theorem costN_bd {b : Bk} (hv : Val b) (l : List Nat) : 0 ≤ costN b l ∧ costN b l ≤ 200 := by
  have hcl := hv.hc
  refine ⟨isum_nonneg fun c hc => (knotsL_bd hv (by omega) l).1, ?_⟩
  have : costN b l ≤ ((b.cords.length + 1 : Nat) : Int) * 40 := isum_le fun c hc => (knotsL_bd hv (by omega) l).2
  omega

theorem c107 (b : Bk) (hv : Val b) (l : List Nat) (hl : l.length = b.cords.length + 1) (hsm : ∀ x ∈ l, x < allN b) : Ctr Try.prog 107 [KB b, IS (nat l)] (.int (costN b l)) := by
  refine ctr_of_wp hmix Try.func107 m107 rfl ?_
  unfold v107
  have hall := allN_le hv
  have hcl := hv.hc
  have hnl : (nat l).length = b.cords.length + 1 := by rw [List.length_map]; exact hl
  simp -failIfUnchanged (disch := first | omega | (simp only [List.length_map, List.length_append, List.length_cons, List.length_nil, List.length_take, List.length_drop, cells_int, cells_bool, cells_agg, cells_sl, cells_clo, cells_und, wcs_len, List.length_replicate, List.length_set]; done) | (simp only [List.length_map, List.length_append, List.length_cons, List.length_nil, List.length_take, List.length_drop, cells_int, cells_bool, cells_agg, cells_sl, cells_clo, cells_und, wcs_len, List.length_replicate, List.length_set]; omega)) only [go_sem, simprocAttr]
  refine wp_loop' Nat (fun i => ⟨[(1, IS (nat l)), (2, .ptr 2 0), (5, .int (isum i fun c => isum b.places.toNat fun p => costL (cordSp b c p) (dgN b l c p : Nat))), (6, .int i)], [(2, ⟨[.int b.base, .int b.places, .sl 1 (b.cords.map SS) .sh, SS b.top], false⟩)], [], none⟩) (fun i => i ≤ b.cords.length + 1) (fun i => b.cords.length + 1 - i) 0 (by simp) (by simp -failIfUnchanged (disch := first | omega | (simp only [List.length_map, List.length_append, List.length_cons, List.length_nil, List.length_take, List.length_drop, cells_int, cells_bool, cells_agg, cells_sl, cells_clo, cells_und, wcs_len, List.length_replicate, List.length_set]; done) | (simp only [List.length_map, List.length_append, List.length_cons, List.length_nil, List.length_take, List.length_drop, cells_int, cells_bool, cells_agg, cells_sl, cells_clo, cells_und, wcs_len, List.length_replicate, List.length_set]; omega)) only [go_sem, simprocAttr]; try simp [isum_zero]) ?_
  intro i hi
  have hs1 : 0 ≤ isum i fun c => isum b.places.toNat fun p => costL (cordSp b c p) (dgN b l c p : Nat) := isum_nonneg fun c hc => (knotsL_bd hv (by omega) l).1
  have hs2 : (isum i fun c => isum b.places.toNat fun p => costL (cordSp b c p) (dgN b l c p : Nat)) ≤ (i : Int) * 40 := isum_le fun c hc => (knotsL_bd hv (by omega) l).2
  have hsucc : (isum (i + 1) fun c => isum b.places.toNat fun p => costL (cordSp b c p) (dgN b l c p : Nat)) = (isum i fun c => isum b.places.toNat fun p => costL (cordSp b c p) (dgN b l c p : Nat)) + isum b.places.toNat fun p => costL (cordSp b i p) (dgN b l i p : Nat) := isum_succ _ _
  simp -failIfUnchanged (disch := first | omega | (simp only [List.length_map, List.length_append, List.length_cons, List.length_nil, List.length_take, List.length_drop, cells_int, cells_bool, cells_agg, cells_sl, cells_clo, cells_und, wcs_len, List.length_replicate, List.length_set]; done) | (simp only [List.length_map, List.length_append, List.length_cons, List.length_nil, List.length_take, List.length_drop, cells_int, cells_bool, cells_agg, cells_sl, cells_clo, cells_und, wcs_len, List.length_replicate, List.length_set]; omega)) only [go_sem, simprocAttr]
  refine wcond_dec (fun h1 => ?_) (fun h1 => ?_)
  · have hic : i ≤ b.cords.length := by omega
    have hxl : l[i]?.getD default < allN b := hsm _ (mem_getD (by omega))
    have hkb := knotsL_bd hv hic l
    simp -failIfUnchanged (disch := first | omega | (simp only [List.length_map, List.length_append, List.length_cons, List.length_nil, List.length_take, List.length_drop, cells_int, cells_bool, cells_agg, cells_sl, cells_clo, cells_und, wcs_len, List.length_replicate, List.length_set]; done) | (simp only [List.length_map, List.length_append, List.length_cons, List.length_nil, List.length_take, List.length_drop, cells_int, cells_bool, cells_agg, cells_sl, cells_clo, cells_und, wcs_len, List.length_replicate, List.length_set]; omega)) only [go_sem, simprocAttr]
    refine wcall (c32 b i hic) ?_
    simp -failIfUnchanged (disch := first | omega | (simp only [List.length_map, List.length_append, List.length_cons, List.length_nil, List.length_take, List.length_drop, cells_int, cells_bool, cells_agg, cells_sl, cells_clo, cells_und, wcs_len, List.length_replicate, List.length_set]; done) | (simp only [List.length_map, List.length_append, List.length_cons, List.length_nil, List.length_take, List.length_drop, cells_int, cells_bool, cells_agg, cells_sl, cells_clo, cells_und, wcs_len, List.length_replicate, List.length_set]; omega)) only [go_sem, simprocAttr, nat_get]
    refine wcall (c69 b hv (l[i]?.getD default) (by omega)) ?_
    simp -failIfUnchanged (disch := first | omega | (simp only [List.length_map, List.length_append, List.length_cons, List.length_nil, List.length_take, List.length_drop, cells_int, cells_bool, cells_agg, cells_sl, cells_clo, cells_und, wcs_len, List.length_replicate, List.length_set]; done) | (simp only [List.length_map, List.length_append, List.length_cons, List.length_nil, List.length_take, List.length_drop, cells_int, cells_bool, cells_agg, cells_sl, cells_clo, cells_und, wcs_len, List.length_replicate, List.length_set]; omega)) only [go_sem, simprocAttr]
    refine wcall (c75r b hv hic l) ?_
    generalize (isum i fun c => isum b.places.toNat fun p => costL (cordSp b c p) (dgN b l c p : Nat)) = S at *
    generalize (isum b.places.toNat fun p => costL (cordSp b i p) (dgN b l i p : Nat)) = K at *
    simp -failIfUnchanged (disch := first | omega | (simp only [List.length_map, List.length_append, List.length_cons, List.length_nil, List.length_take, List.length_drop, cells_int, cells_bool, cells_agg, cells_sl, cells_clo, cells_und, wcs_len, List.length_replicate, List.length_set]; done) | (simp only [List.length_map, List.length_append, List.length_cons, List.length_nil, List.length_take, List.length_drop, cells_int, cells_bool, cells_agg, cells_sl, cells_clo, cells_und, wcs_len, List.length_replicate, List.length_set]; omega)) only [go_sem, simprocAttr]
    refine ⟨i + 1, by omega, by dsimp only; omega, ?_⟩
    dsimp only
    rw [hsucc]
    simp -failIfUnchanged (disch := first | omega | (simp only [List.length_map, List.length_append, List.length_cons, List.length_nil, List.length_take, List.length_drop, cells_int, cells_bool, cells_agg, cells_sl, cells_clo, cells_und, wcs_len, List.length_replicate, List.length_set]; done) | (simp only [List.length_map, List.length_append, List.length_cons, List.length_nil, List.length_take, List.length_drop, cells_int, cells_bool, cells_agg, cells_sl, cells_clo, cells_und, wcs_len, List.length_replicate, List.length_set]; omega)) only [go_sem, simprocAttr]
    try simp
  · have e : i = b.cords.length + 1 := by omega
    subst e
    simp -failIfUnchanged (disch := first | omega | (simp only [List.length_map, List.length_append, List.length_cons, List.length_nil, List.length_take, List.length_drop, cells_int, cells_bool, cells_agg, cells_sl, cells_clo, cells_und, wcs_len, List.length_replicate, List.length_set]; done) | (simp only [List.length_map, List.length_append, List.length_cons, List.length_nil, List.length_take, List.length_drop, cells_int, cells_bool, cells_agg, cells_sl, cells_clo, cells_und, wcs_len, List.length_replicate, List.length_set]; omega)) only [go_sem, simprocAttr]
    try rfl

end Go.Proofs.Ytkkiipjfbebipaa

/- Wide; the reference's Retie and Blame. -/
set_option linter.unusedSimpArgs false
set_option linter.unusedVariables false
set_option linter.unnecessarySimpa false
namespace Go.Proofs.Ytkkiipjfbebipaa
open Go Go.V

def wideP (b : Bk) : Bool := (List.range (max 1 b.cords.length)).any fun i => decide (1300 < allN b ^ (i + 1))
def wideB (b : Bk) : Bool := hugeB b || (checkB b && wideP b)

theorem c22 (b : Bk) (h1 : b.cords.length < 9223372036854775808) : Ctr Try.prog 22 [KB b] (.bool (wideB b)) := by
  refine ctr_of_wp hmix Try.func22 m22 rfl ?_
  unfold v22 wideB
  simp -failIfUnchanged (disch := first | omega | (simp only [List.length_map, List.length_append, List.length_cons, List.length_nil, List.length_take, List.length_drop, cells_int, cells_bool, cells_agg, cells_sl, cells_clo, cells_und, wcs_len, List.length_replicate, List.length_set]; done) | (simp only [List.length_map, List.length_append, List.length_cons, List.length_nil, List.length_take, List.length_drop, cells_int, cells_bool, cells_agg, cells_sl, cells_clo, cells_und, wcs_len, List.length_replicate, List.length_set]; omega)) only [go_sem, simprocAttr]
  refine wcall (c48 b h1) ?_
  cases hh : hugeB b with
  | true => simp -failIfUnchanged (disch := first | omega | (simp only [List.length_map, List.length_append, List.length_cons, List.length_nil, List.length_take, List.length_drop, cells_int, cells_bool, cells_agg, cells_sl, cells_clo, cells_und, wcs_len, List.length_replicate, List.length_set]; done) | (simp only [List.length_map, List.length_append, List.length_cons, List.length_nil, List.length_take, List.length_drop, cells_int, cells_bool, cells_agg, cells_sl, cells_clo, cells_und, wcs_len, List.length_replicate, List.length_set]; omega)) only [go_sem, simprocAttr]
  | false =>
    have hs := small_small hh
    simp -failIfUnchanged (disch := first | omega | (simp only [List.length_map, List.length_append, List.length_cons, List.length_nil, List.length_take, List.length_drop, cells_int, cells_bool, cells_agg, cells_sl, cells_clo, cells_und, wcs_len, List.length_replicate, List.length_set]; done) | (simp only [List.length_map, List.length_append, List.length_cons, List.length_nil, List.length_take, List.length_drop, cells_int, cells_bool, cells_agg, cells_sl, cells_clo, cells_und, wcs_len, List.length_replicate, List.length_set]; omega)) only [go_sem, simprocAttr]
    refine wcall (c50 b hs) ?_
    cases hc : checkB b with
    | false => simp -failIfUnchanged (disch := first | omega | (simp only [List.length_map, List.length_append, List.length_cons, List.length_nil, List.length_take, List.length_drop, cells_int, cells_bool, cells_agg, cells_sl, cells_clo, cells_und, wcs_len, List.length_replicate, List.length_set]; done) | (simp only [List.length_map, List.length_append, List.length_cons, List.length_nil, List.length_take, List.length_drop, cells_int, cells_bool, cells_agg, cells_sl, cells_clo, cells_und, wcs_len, List.length_replicate, List.length_set]; omega)) only [go_sem, simprocAttr]
    | true =>
      have hv := val_of_check hc
      have hall := allN_le hv
      have hcl := hv.hc
      simp -failIfUnchanged (disch := first | omega | (simp only [List.length_map, List.length_append, List.length_cons, List.length_nil, List.length_take, List.length_drop, cells_int, cells_bool, cells_agg, cells_sl, cells_clo, cells_und, wcs_len, List.length_replicate, List.length_set]; done) | (simp only [List.length_map, List.length_append, List.length_cons, List.length_nil, List.length_take, List.length_drop, cells_int, cells_bool, cells_agg, cells_sl, cells_clo, cells_und, wcs_len, List.length_replicate, List.length_set]; omega)) only [go_sem, simprocAttr]
      refine wp_loop' Nat (fun i => ⟨[(1, .ptr 1 0), (3, .int (allN b ^ i : Nat)), (4, .int i)], [(1, ⟨[.int b.base, .int b.places, .sl 1 (b.cords.map SS) .sh, SS b.top], false⟩)], [], none⟩) (fun i => i ≤ max 1 b.cords.length ∧ allN b ^ i ≤ 1300 ∧ ∀ j, j < i → decide (1300 < allN b ^ (j + 1)) = false) (fun i => max 1 b.cords.length - i) 0 ⟨by simp, by simp, by simp⟩ (by simp -failIfUnchanged (disch := first | omega | (simp only [List.length_map, List.length_append, List.length_cons, List.length_nil, List.length_take, List.length_drop, cells_int, cells_bool, cells_agg, cells_sl, cells_clo, cells_und, wcs_len, List.length_replicate, List.length_set]; done) | (simp only [List.length_map, List.length_append, List.length_cons, List.length_nil, List.length_take, List.length_drop, cells_int, cells_bool, cells_agg, cells_sl, cells_clo, cells_und, wcs_len, List.length_replicate, List.length_set]; omega)) only [go_sem, simprocAttr]; try simp) ?_
      rintro i ⟨hi, hn, hpre⟩
      simp -failIfUnchanged (disch := first | omega | (simp only [List.length_map, List.length_append, List.length_cons, List.length_nil, List.length_take, List.length_drop, cells_int, cells_bool, cells_agg, cells_sl, cells_clo, cells_und, wcs_len, List.length_replicate, List.length_set]; done) | (simp only [List.length_map, List.length_append, List.length_cons, List.length_nil, List.length_take, List.length_drop, cells_int, cells_bool, cells_agg, cells_sl, cells_clo, cells_und, wcs_len, List.length_replicate, List.length_set]; omega)) only [go_sem, simprocAttr]
      refine wcond_dec (fun h5 => ?_) (fun h5 => ?_)
      · have hlt : i < max 1 b.cords.length := by omega
        have hpow : allN b ^ (i + 1) = allN b ^ i * allN b := Nat.pow_succ ..
        have hmul : allN b ^ i * allN b ≤ 1300 * 10000 := Nat.mul_le_mul hn hall
        have hcast : ((allN b ^ i : Nat) : Int) * (allN b : Int) = ((allN b ^ (i + 1) : Nat) : Int) := by rw [hpow, Int.natCast_mul]
        have hy : 1300 < allN b ^ (i + 1) → wideP b = true := fun h => List.any_eq_true.2 ⟨i, by simpa using hlt, by simpa using h⟩
        have e3 : w64 (((allN b ^ i : Nat) : Int) * (allN b : Int)) = ((allN b ^ (i + 1) : Nat) : Int) := by
          rw [hcast]
          exact w64_id (by omega)
        simp -failIfUnchanged (disch := first | omega | (simp only [List.length_map, List.length_append, List.length_cons, List.length_nil, List.length_take, List.length_drop, cells_int, cells_bool, cells_agg, cells_sl, cells_clo, cells_und, wcs_len, List.length_replicate, List.length_set]; done) | (simp only [List.length_map, List.length_append, List.length_cons, List.length_nil, List.length_take, List.length_drop, cells_int, cells_bool, cells_agg, cells_sl, cells_clo, cells_und, wcs_len, List.length_replicate, List.length_set]; omega)) only [go_sem, simprocAttr]
        refine wcall (c41 b hv) ?_
        generalize hM : allN b ^ (i + 1) = M at *
        generalize hN : allN b ^ i = N at *
        simp -failIfUnchanged (disch := first | omega | (simp only [List.length_map, List.length_append, List.length_cons, List.length_nil, List.length_take, List.length_drop, cells_int, cells_bool, cells_agg, cells_sl, cells_clo, cells_und, wcs_len, List.length_replicate, List.length_set]; done) | (simp only [List.length_map, List.length_append, List.length_cons, List.length_nil, List.length_take, List.length_drop, cells_int, cells_bool, cells_agg, cells_sl, cells_clo, cells_und, wcs_len, List.length_replicate, List.length_set]; omega)) only [go_sem, simprocAttr, e3]
        refine wcond_dec (fun h8 => ?_) (fun h8 => ?_)
        · simp -failIfUnchanged (disch := first | omega | (simp only [List.length_map, List.length_append, List.length_cons, List.length_nil, List.length_take, List.length_drop, cells_int, cells_bool, cells_agg, cells_sl, cells_clo, cells_und, wcs_len, List.length_replicate, List.length_set]; done) | (simp only [List.length_map, List.length_append, List.length_cons, List.length_nil, List.length_take, List.length_drop, cells_int, cells_bool, cells_agg, cells_sl, cells_clo, cells_und, wcs_len, List.length_replicate, List.length_set]; omega)) only [go_sem, simprocAttr]
          simp [hy (by omega)]
        · simp -failIfUnchanged (disch := first | omega | (simp only [List.length_map, List.length_append, List.length_cons, List.length_nil, List.length_take, List.length_drop, cells_int, cells_bool, cells_agg, cells_sl, cells_clo, cells_und, wcs_len, List.length_replicate, List.length_set]; done) | (simp only [List.length_map, List.length_append, List.length_cons, List.length_nil, List.length_take, List.length_drop, cells_int, cells_bool, cells_agg, cells_sl, cells_clo, cells_und, wcs_len, List.length_replicate, List.length_set]; omega)) only [go_sem, simprocAttr]
          refine ⟨i + 1, ⟨by omega, by omega, fun j hj => ?_⟩, by dsimp only; omega, ?_⟩
          · rcases Nat.lt_or_ge j i with hj2 | hj2
            · exact hpre j hj2
            · have : j = i := by omega
              subst this
              rw [hM]
              simp
              omega
          · dsimp only
            rw [hM]
            simp -failIfUnchanged (disch := first | omega | (simp only [List.length_map, List.length_append, List.length_cons, List.length_nil, List.length_take, List.length_drop, cells_int, cells_bool, cells_agg, cells_sl, cells_clo, cells_und, wcs_len, List.length_replicate, List.length_set]; done) | (simp only [List.length_map, List.length_append, List.length_cons, List.length_nil, List.length_take, List.length_drop, cells_int, cells_bool, cells_agg, cells_sl, cells_clo, cells_und, wcs_len, List.length_replicate, List.length_set]; omega)) only [go_sem, simprocAttr]
            try simp
      · have e : i = max 1 b.cords.length := by omega
        subst e
        simp -failIfUnchanged (disch := first | omega | (simp only [List.length_map, List.length_append, List.length_cons, List.length_nil, List.length_take, List.length_drop, cells_int, cells_bool, cells_agg, cells_sl, cells_clo, cells_und, wcs_len, List.length_replicate, List.length_set]; done) | (simp only [List.length_map, List.length_append, List.length_cons, List.length_nil, List.length_take, List.length_drop, cells_int, cells_bool, cells_agg, cells_sl, cells_clo, cells_und, wcs_len, List.length_replicate, List.length_set]; omega)) only [go_sem, simprocAttr]
        have : wideP b = false := List.any_eq_false.2 fun j hj => by rw [hpre j (by simpa using hj)]; simp
        simp [this]

theorem wide_pow {b : Bk} (h : wideP b = false) (h0 : 0 < allN b) : allN b ^ b.cords.length ≤ 1300 := by
  unfold wideP at h
  rw [List.any_eq_false] at h
  have h1 := h (max 1 b.cords.length - 1) (by simp; omega)
  rw [show max 1 b.cords.length - 1 + 1 = max 1 b.cords.length by omega] at h1
  have h2 : allN b ^ b.cords.length ≤ allN b ^ max 1 b.cords.length := Nat.pow_le_pow_right h0 (by omega)
  simp at h1
  omega

theorem tup_len (N : Nat) : ∀ m, (tup m N).length = N ^ m
  | 0 => rfl
  | m + 1 => by
    have : (tup (m + 1) N).length = sumF (List.range N) fun _ => (tup m N).length := by
      rw [tup, List.length_flatMap]
      simp [sumF]
    rw [this, tup_len N m]
    have e : (sumF (List.range N) fun _ => N ^ m) = (sumF (List.range N) fun _ => 1) * N ^ m := by
      generalize List.range N = l
      induction l with
      | nil => simp [sumF_nil]
      | cons a r ih => rw [sumF_cons, sumF_cons, ih, Nat.add_mul, Nat.one_mul]
    rw [e, sumF_len, List.length_range, Nat.pow_succ, Nat.mul_comm]

abbrev frNs (b : Bk) : List (List Nat) := sumsN b true b.cords.length []

theorem fr_count (b : Bk) : (frNs b).length ≤ allN b ^ b.cords.length := by
  have e1 : (frNs b).length = sumF (frNs b) fun _ => 1 := (sumF_len _).symm
  rw [e1, sumF_sumsN]
  refine Nat.le_trans (sumF_le (g := fun _ => 1) fun t _ => ?_) ?_
  · split <;> omega
  · rw [sumF_len, tup_len]
    exact Nat.le_refl _

theorem fr_mem {b : Bk} {l : List Nat} (h : l ∈ frNs b) : l.length = b.cords.length + 1 ∧ ∀ x ∈ l, x < allN b := by
  have := sumsN_mem b true b.cords.length [] l (by simp) h
  simpa using this

theorem fr_some {b : Bk} (h0 : 0 < allN b) : ∀ (k : Nat) (first : List Nat), first.sum = 0 → ∃ l, l ∈ sumsN b true k first
  | 0, first, h => by
    unfold sumsN
    rw [if_pos (by simp [h, h0])]
    exact ⟨_, List.mem_singleton.2 rfl⟩
  | k + 1, first, h => by
    obtain ⟨l, hl⟩ := fr_some h0 k (first ++ [0]) (by simpa using h)
    refine ⟨l, ?_⟩
    unfold sumsN
    exact List.mem_flatMap.2 ⟨0, List.mem_filter.2 ⟨by simpa using h0, by simp [isN]⟩, hl⟩

def minC (b : Bk) (L : List (List Nat)) (m : Nat) : Int := (L.take m).foldl (fun a l => min a (costN b l)) (costN b (L[0]?.getD default))
def leastB (b : Bk) : Int := minC b (frNs b) (frNs b).length
def retL (b : Bk) (m : Nat) : List (List Nat) := ((frNs b).take m).filter fun l => decide (costN b l = leastB b)

theorem c72 (b : Bk) (hv : Val b) (hlen : (frNs b).length < 4294967296) : Ctr Try.prog 72 [KB b] (.tup [ISS ((retL b (frNs b).length).map nat), .int (leastB b)]) := by
  refine ctr_of_wp hmix Try.func72 m72 rfl ?_
  unfold v72
  have hbb := hv.hb
  have h0 : 0 < allN b := Nat.pow_pos (by omega)
  obtain ⟨l0, hl0⟩ := fr_some h0 b.cords.length [] rfl
  have hpos : 0 < (frNs b).length := List.length_pos_of_mem hl0
  have hmem := @fr_mem b
  have hS : sumsF b true b.cords.length [] = (frNs b).map nat := sumsF_eq b true _ _
  simp -failIfUnchanged (disch := first | omega | (simp only [List.length_map, List.length_append, List.length_cons, List.length_nil, List.length_take, List.length_drop, cells_int, cells_bool, cells_agg, cells_sl, cells_clo, cells_und, wcs_len, List.length_replicate, List.length_set]; done) | (simp only [List.length_map, List.length_append, List.length_cons, List.length_nil, List.length_take, List.length_drop, cells_int, cells_bool, cells_agg, cells_sl, cells_clo, cells_und, wcs_len, List.length_replicate, List.length_set]; omega)) only [go_sem, simprocAttr]
  refine wcall (c68 b hv true b.cords.length [] (by simp) (by simp) (by rw [hS]; simpa using hlen)) ?_
  rw [hS]
  have hret : ∀ i, i < (frNs b).length → retL b (i + 1) = retL b i ++ if costN b ((frNs b)[i]?.getD default) = leastB b then [(frNs b)[i]?.getD default] else [] := by
    intro i hi
    unfold retL
    rw [take_snoc hi, List.filter_append]
    congr 1
    by_cases h : costN b ((frNs b)[i]?.getD default) = leastB b
    · rw [if_pos h]; simp [h]
    · rw [if_neg h]; simp [h]
  have hminS : ∀ i, i < (frNs b).length → minC b (frNs b) (i + 1) = min (minC b (frNs b) i) (costN b ((frNs b)[i]?.getD default)) := by
    intro i hi
    unfold minC
    rw [take_snoc hi, List.foldl_append]
    rfl
  have hmin0 : minC b (frNs b) 0 = costN b ((frNs b)[0]?.getD default) := by simp [minC]
  have hlast : minC b (frNs b) (frNs b).length = leastB b := rfl
  have hret0 : retL b 0 = [] := by simp [retL]
  have hretl : ∀ i, (retL b i).length ≤ (frNs b).length := fun i => by
    unfold retL
    have := List.length_filter_le (fun l => decide (costN b l = leastB b)) ((frNs b).take i)
    rw [List.length_take] at this
    omega
  generalize hL : frNs b = L at *
  obtain ⟨x0, hx0⟩ : ∃ x, L[0]? = some x := ⟨L[0], List.getElem?_eq_getElem hpos⟩
  have e00 : L[0]?.getD default = x0 := by rw [hx0]; rfl
  have e01 : (L.map nat)[0]?.getD default = nat x0 := by simp [hx0]
  have hxm := hmem (List.mem_of_getElem? hx0)
  rw [e00] at hmin0
  simp -failIfUnchanged (disch := first | omega | (simp only [List.length_map, List.length_append, List.length_cons, List.length_nil, List.length_take, List.length_drop, cells_int, cells_bool, cells_agg, cells_sl, cells_clo, cells_und, wcs_len, List.length_replicate, List.length_set]; done) | (simp only [List.length_map, List.length_append, List.length_cons, List.length_nil, List.length_take, List.length_drop, cells_int, cells_bool, cells_agg, cells_sl, cells_clo, cells_und, wcs_len, List.length_replicate, List.length_set]; omega)) only [go_sem, simprocAttr, e01]
  refine wcall (c107 b hv x0 hxm.1 hxm.2) ?_
  simp -failIfUnchanged (disch := first | omega | (simp only [List.length_map, List.length_append, List.length_cons, List.length_nil, List.length_take, List.length_drop, cells_int, cells_bool, cells_agg, cells_sl, cells_clo, cells_und, wcs_len, List.length_replicate, List.length_set]; done) | (simp only [List.length_map, List.length_append, List.length_cons, List.length_nil, List.length_take, List.length_drop, cells_int, cells_bool, cells_agg, cells_sl, cells_clo, cells_und, wcs_len, List.length_replicate, List.length_set]; omega)) only [go_sem, simprocAttr]
  refine wp_loop' Nat (fun i => ⟨[(1, .ptr 1 0), (4, ISS (L.map nat)), (5, .int (minC b L i)), (6, .int i)], [(1, ⟨[.int b.base, .int b.places, .sl 1 (b.cords.map SS) .sh, SS b.top], false⟩)], [], none⟩) (fun i => i ≤ L.length) (fun i => L.length - i) 0 (by simp) (by rw [hmin0]; simp -failIfUnchanged (disch := first | omega | (simp only [List.length_map, List.length_append, List.length_cons, List.length_nil, List.length_take, List.length_drop, cells_int, cells_bool, cells_agg, cells_sl, cells_clo, cells_und, wcs_len, List.length_replicate, List.length_set]; done) | (simp only [List.length_map, List.length_append, List.length_cons, List.length_nil, List.length_take, List.length_drop, cells_int, cells_bool, cells_agg, cells_sl, cells_clo, cells_und, wcs_len, List.length_replicate, List.length_set]; omega)) only [go_sem, simprocAttr]; try simp) ?_
  intro i hi
  simp -failIfUnchanged (disch := first | omega | (simp only [List.length_map, List.length_append, List.length_cons, List.length_nil, List.length_take, List.length_drop, cells_int, cells_bool, cells_agg, cells_sl, cells_clo, cells_und, wcs_len, List.length_replicate, List.length_set]; done) | (simp only [List.length_map, List.length_append, List.length_cons, List.length_nil, List.length_take, List.length_drop, cells_int, cells_bool, cells_agg, cells_sl, cells_clo, cells_und, wcs_len, List.length_replicate, List.length_set]; omega)) only [go_sem, simprocAttr]
  refine wcond_dec (fun h1 => ?_) (fun h1 => ?_)
  · have hlt : i < L.length := by omega
    obtain ⟨l, hl⟩ : ∃ l, L[i]? = some l := ⟨L[i], List.getElem?_eq_getElem hlt⟩
    have e0 : L[i]?.getD default = l := by rw [hl]; rfl
    have e1 : (L.map nat)[i]?.getD default = nat l := by simp [hl]
    have hlm := hmem (List.mem_of_getElem? hl)
    simp -failIfUnchanged (disch := first | omega | (simp only [List.length_map, List.length_append, List.length_cons, List.length_nil, List.length_take, List.length_drop, cells_int, cells_bool, cells_agg, cells_sl, cells_clo, cells_und, wcs_len, List.length_replicate, List.length_set]; done) | (simp only [List.length_map, List.length_append, List.length_cons, List.length_nil, List.length_take, List.length_drop, cells_int, cells_bool, cells_agg, cells_sl, cells_clo, cells_und, wcs_len, List.length_replicate, List.length_set]; omega)) only [go_sem, simprocAttr, e1]
    refine wcall (c107 b hv l hlm.1 hlm.2) ?_
    simp -failIfUnchanged (disch := first | omega | (simp only [List.length_map, List.length_append, List.length_cons, List.length_nil, List.length_take, List.length_drop, cells_int, cells_bool, cells_agg, cells_sl, cells_clo, cells_und, wcs_len, List.length_replicate, List.length_set]; done) | (simp only [List.length_map, List.length_append, List.length_cons, List.length_nil, List.length_take, List.length_drop, cells_int, cells_bool, cells_agg, cells_sl, cells_clo, cells_und, wcs_len, List.length_replicate, List.length_set]; omega)) only [go_sem, simprocAttr]
    refine ⟨i + 1, by omega, by dsimp only; omega, ?_⟩
    dsimp only
    rw [hminS i hlt, e0]
    simp -failIfUnchanged (disch := first | omega | (simp only [List.length_map, List.length_append, List.length_cons, List.length_nil, List.length_take, List.length_drop, cells_int, cells_bool, cells_agg, cells_sl, cells_clo, cells_und, wcs_len, List.length_replicate, List.length_set]; done) | (simp only [List.length_map, List.length_append, List.length_cons, List.length_nil, List.length_take, List.length_drop, cells_int, cells_bool, cells_agg, cells_sl, cells_clo, cells_und, wcs_len, List.length_replicate, List.length_set]; omega)) only [go_sem, simprocAttr]
    try simp
  · have e : i = L.length := by omega
    subst e
    rw [hlast]
    simp -failIfUnchanged (disch := first | omega | (simp only [List.length_map, List.length_append, List.length_cons, List.length_nil, List.length_take, List.length_drop, cells_int, cells_bool, cells_agg, cells_sl, cells_clo, cells_und, wcs_len, List.length_replicate, List.length_set]; done) | (simp only [List.length_map, List.length_append, List.length_cons, List.length_nil, List.length_take, List.length_drop, cells_int, cells_bool, cells_agg, cells_sl, cells_clo, cells_und, wcs_len, List.length_replicate, List.length_set]; omega)) only [go_sem, simprocAttr]
    refine wp_loop' Nat (fun i => ⟨[(1, .ptr 1 0), (4, ISS (L.map nat)), (5, .int (leastB b)), (7, .sl 1 (((retL b i).map nat).map IS) (.own 7)), (8, .int i)], [(1, ⟨[.int b.base, .int b.places, .sl 1 (b.cords.map SS) .sh, SS b.top], false⟩)], [(7, (retL b i).length)], none⟩) (fun i => i ≤ L.length) (fun i => L.length - i) 0 (by simp) (by rw [hret0]; simp -failIfUnchanged (disch := first | omega | (simp only [List.length_map, List.length_append, List.length_cons, List.length_nil, List.length_take, List.length_drop, cells_int, cells_bool, cells_agg, cells_sl, cells_clo, cells_und, wcs_len, List.length_replicate, List.length_set]; done) | (simp only [List.length_map, List.length_append, List.length_cons, List.length_nil, List.length_take, List.length_drop, cells_int, cells_bool, cells_agg, cells_sl, cells_clo, cells_und, wcs_len, List.length_replicate, List.length_set]; omega)) only [go_sem, simprocAttr]; try simp) ?_
    intro i hi
    simp -failIfUnchanged (disch := first | omega | (simp only [List.length_map, List.length_append, List.length_cons, List.length_nil, List.length_take, List.length_drop, cells_int, cells_bool, cells_agg, cells_sl, cells_clo, cells_und, wcs_len, List.length_replicate, List.length_set]; done) | (simp only [List.length_map, List.length_append, List.length_cons, List.length_nil, List.length_take, List.length_drop, cells_int, cells_bool, cells_agg, cells_sl, cells_clo, cells_und, wcs_len, List.length_replicate, List.length_set]; omega)) only [go_sem, simprocAttr]
    refine wcond_dec (fun h1 => ?_) (fun h1 => ?_)
    · have hlt : i < L.length := by omega
      obtain ⟨l, hl⟩ : ∃ l, L[i]? = some l := ⟨L[i], List.getElem?_eq_getElem hlt⟩
      have e0 : L[i]?.getD default = l := by rw [hl]; rfl
      have e1 : (L.map nat)[i]?.getD default = nat l := by simp [hl]
      have hlm := hmem (List.mem_of_getElem? hl)
      have hrl := hretl i
      simp -failIfUnchanged (disch := first | omega | (simp only [List.length_map, List.length_append, List.length_cons, List.length_nil, List.length_take, List.length_drop, cells_int, cells_bool, cells_agg, cells_sl, cells_clo, cells_und, wcs_len, List.length_replicate, List.length_set]; done) | (simp only [List.length_map, List.length_append, List.length_cons, List.length_nil, List.length_take, List.length_drop, cells_int, cells_bool, cells_agg, cells_sl, cells_clo, cells_und, wcs_len, List.length_replicate, List.length_set]; omega)) only [go_sem, simprocAttr, e1]
      refine wcall (c107 b hv l hlm.1 hlm.2) ?_
      simp -failIfUnchanged (disch := first | omega | (simp only [List.length_map, List.length_append, List.length_cons, List.length_nil, List.length_take, List.length_drop, cells_int, cells_bool, cells_agg, cells_sl, cells_clo, cells_und, wcs_len, List.length_replicate, List.length_set]; done) | (simp only [List.length_map, List.length_append, List.length_cons, List.length_nil, List.length_take, List.length_drop, cells_int, cells_bool, cells_agg, cells_sl, cells_clo, cells_und, wcs_len, List.length_replicate, List.length_set]; omega)) only [go_sem, simprocAttr]
      refine wcond_dec (fun h2 => ?_) (fun h2 => ?_)
      · have hr := hret i hlt
        rw [e0, if_pos h2] at hr
        simp -failIfUnchanged (disch := first | omega | (simp only [List.length_map, List.length_append, List.length_cons, List.length_nil, List.length_take, List.length_drop, cells_int, cells_bool, cells_agg, cells_sl, cells_clo, cells_und, wcs_len, List.length_replicate, List.length_set]; done) | (simp only [List.length_map, List.length_append, List.length_cons, List.length_nil, List.length_take, List.length_drop, cells_int, cells_bool, cells_agg, cells_sl, cells_clo, cells_und, wcs_len, List.length_replicate, List.length_set]; omega)) only [go_sem, simprocAttr, e1]
        refine ⟨i + 1, by omega, by dsimp only; omega, ?_⟩
        dsimp only
        rw [hr]
        simp -failIfUnchanged (disch := first | omega | (simp only [List.length_map, List.length_append, List.length_cons, List.length_nil, List.length_take, List.length_drop, cells_int, cells_bool, cells_agg, cells_sl, cells_clo, cells_und, wcs_len, List.length_replicate, List.length_set]; done) | (simp only [List.length_map, List.length_append, List.length_cons, List.length_nil, List.length_take, List.length_drop, cells_int, cells_bool, cells_agg, cells_sl, cells_clo, cells_und, wcs_len, List.length_replicate, List.length_set]; omega)) only [go_sem, simprocAttr]
        try simp
      · have hr := hret i hlt
        rw [e0, if_neg h2, List.append_nil] at hr
        simp -failIfUnchanged (disch := first | omega | (simp only [List.length_map, List.length_append, List.length_cons, List.length_nil, List.length_take, List.length_drop, cells_int, cells_bool, cells_agg, cells_sl, cells_clo, cells_und, wcs_len, List.length_replicate, List.length_set]; done) | (simp only [List.length_map, List.length_append, List.length_cons, List.length_nil, List.length_take, List.length_drop, cells_int, cells_bool, cells_agg, cells_sl, cells_clo, cells_und, wcs_len, List.length_replicate, List.length_set]; omega)) only [go_sem, simprocAttr]
        refine ⟨i + 1, by omega, by dsimp only; omega, ?_⟩
        dsimp only
        rw [hr]
        simp -failIfUnchanged (disch := first | omega | (simp only [List.length_map, List.length_append, List.length_cons, List.length_nil, List.length_take, List.length_drop, cells_int, cells_bool, cells_agg, cells_sl, cells_clo, cells_und, wcs_len, List.length_replicate, List.length_set]; done) | (simp only [List.length_map, List.length_append, List.length_cons, List.length_nil, List.length_take, List.length_drop, cells_int, cells_bool, cells_agg, cells_sl, cells_clo, cells_und, wcs_len, List.length_replicate, List.length_set]; omega)) only [go_sem, simprocAttr]
        try simp
    · have e : i = L.length := by omega
      subst e
      simp -failIfUnchanged (disch := first | omega | (simp only [List.length_map, List.length_append, List.length_cons, List.length_nil, List.length_take, List.length_drop, cells_int, cells_bool, cells_agg, cells_sl, cells_clo, cells_und, wcs_len, List.length_replicate, List.length_set]; done) | (simp only [List.length_map, List.length_append, List.length_cons, List.length_nil, List.length_take, List.length_drop, cells_int, cells_bool, cells_agg, cells_sl, cells_clo, cells_und, wcs_len, List.length_replicate, List.length_set]; omega)) only [go_sem, simprocAttr]

theorem c24 (b : Bk) (hs : Small b) (hlen : checkB b = true → (frNs b).length < 4294967296) : Ctr Try.prog 24 [KB b] (if checkB b then .tup [.int (leastB b), .int 0] else .tup [.int 0, .int 110]) := by
  refine ctr_of_wp hmix Try.func24 m24 rfl ?_
  unfold v24
  simp -failIfUnchanged (disch := first | omega | (simp only [List.length_map, List.length_append, List.length_cons, List.length_nil, List.length_take, List.length_drop, cells_int, cells_bool, cells_agg, cells_sl, cells_clo, cells_und, wcs_len, List.length_replicate, List.length_set]; done) | (simp only [List.length_map, List.length_append, List.length_cons, List.length_nil, List.length_take, List.length_drop, cells_int, cells_bool, cells_agg, cells_sl, cells_clo, cells_und, wcs_len, List.length_replicate, List.length_set]; omega)) only [go_sem, simprocAttr]
  refine wcall (c50 b hs) ?_
  cases hc : checkB b with
  | false => simp -failIfUnchanged (disch := first | omega | (simp only [List.length_map, List.length_append, List.length_cons, List.length_nil, List.length_take, List.length_drop, cells_int, cells_bool, cells_agg, cells_sl, cells_clo, cells_und, wcs_len, List.length_replicate, List.length_set]; done) | (simp only [List.length_map, List.length_append, List.length_cons, List.length_nil, List.length_take, List.length_drop, cells_int, cells_bool, cells_agg, cells_sl, cells_clo, cells_und, wcs_len, List.length_replicate, List.length_set]; omega)) only [go_sem, simprocAttr]
  | true =>
    simp -failIfUnchanged (disch := first | omega | (simp only [List.length_map, List.length_append, List.length_cons, List.length_nil, List.length_take, List.length_drop, cells_int, cells_bool, cells_agg, cells_sl, cells_clo, cells_und, wcs_len, List.length_replicate, List.length_set]; done) | (simp only [List.length_map, List.length_append, List.length_cons, List.length_nil, List.length_take, List.length_drop, cells_int, cells_bool, cells_agg, cells_sl, cells_clo, cells_und, wcs_len, List.length_replicate, List.length_set]; omega)) only [go_sem, simprocAttr]
    refine wcall (c72 b (val_of_check hc) (hlen hc)) ?_
    simp -failIfUnchanged (disch := first | omega | (simp only [List.length_map, List.length_append, List.length_cons, List.length_nil, List.length_take, List.length_drop, cells_int, cells_bool, cells_agg, cells_sl, cells_clo, cells_und, wcs_len, List.length_replicate, List.length_set]; done) | (simp only [List.length_map, List.length_append, List.length_cons, List.length_nil, List.length_take, List.length_drop, cells_int, cells_bool, cells_agg, cells_sl, cells_clo, cells_und, wcs_len, List.length_replicate, List.length_set]; omega)) only [go_sem, simprocAttr]

end Go.Proofs.Ytkkiipjfbebipaa

/- The reference's Blame; KnotsRetie. -/
set_option linter.unusedSimpArgs false
set_option linter.unusedVariables false
set_option linter.unnecessarySimpa false
namespace Go.Proofs.Ytkkiipjfbebipaa
open Go Go.V

theorem allC_at' {b : Bk} (c : Nat) (h : c ≤ b.cords.length) : (allC b)[c]?.getD default = cordAt b c := by
  unfold allC cordAt
  split
  · next e => subst e; simp
  · next e =>
    rw [List.getElem?_append_left (by omega)]

abbrev kn1 (b : Bk) (c : Nat) (l : List Nat) : Int := isum b.places.toNat fun p => costL (cordSp b c p) (dgN b l c p : Nat)
abbrev retA (b : Bk) : List (List Nat) := retL b (frNs b).length
def blR (b : Bk) (c : Nat) : Bool := (retA b).any fun l => decide (0 < kn1 b c l)
def blL (b : Bk) (k : Nat) : List Int := ((List.range k).filter (blR b)).map fun n : Nat => (n : Int)

def blameV (b : Bk) : List Int × Int := if checkB b then if leastB b = 0 then ([], 3) else (blL b (b.cords.length + 1), 0) else ([], 110)

theorem ret_mem {b : Bk} {l : List Nat} (h : l ∈ retA b) : l ∈ frNs b ∧ costN b l = leastB b := by
  unfold retA retL at h
  rw [List.take_length] at h
  have := List.mem_filter.1 h
  simpa using this

theorem c26 (b : Bk) (hs : Small b) (hlen : checkB b = true → (frNs b).length < 4294967296) : Ctr Try.prog 26 [KB b] (.tup [IS (blameV b).1, .int (blameV b).2]) := by
  refine ctr_of_wp hmix Try.func26 m26 rfl ?_
  unfold v26 blameV
  simp -failIfUnchanged (disch := first | omega | (simp only [List.length_map, List.length_append, List.length_cons, List.length_nil, List.length_take, List.length_drop, cells_int, cells_bool, cells_agg, cells_sl, cells_clo, cells_und, wcs_len, List.length_replicate, List.length_set]; done) | (simp only [List.length_map, List.length_append, List.length_cons, List.length_nil, List.length_take, List.length_drop, cells_int, cells_bool, cells_agg, cells_sl, cells_clo, cells_und, wcs_len, List.length_replicate, List.length_set]; omega)) only [go_sem, simprocAttr]
  refine wcall (c50 b hs) ?_
  cases hc : checkB b with
  | false => simp -failIfUnchanged (disch := first | omega | (simp only [List.length_map, List.length_append, List.length_cons, List.length_nil, List.length_take, List.length_drop, cells_int, cells_bool, cells_agg, cells_sl, cells_clo, cells_und, wcs_len, List.length_replicate, List.length_set]; done) | (simp only [List.length_map, List.length_append, List.length_cons, List.length_nil, List.length_take, List.length_drop, cells_int, cells_bool, cells_agg, cells_sl, cells_clo, cells_und, wcs_len, List.length_replicate, List.length_set]; omega)) only [go_sem, simprocAttr]; rfl
  | true =>
    have hv := val_of_check hc
    have hcl := hv.hc
    have hall := allN_le hv
    simp -failIfUnchanged (disch := first | omega | (simp only [List.length_map, List.length_append, List.length_cons, List.length_nil, List.length_take, List.length_drop, cells_int, cells_bool, cells_agg, cells_sl, cells_clo, cells_und, wcs_len, List.length_replicate, List.length_set]; done) | (simp only [List.length_map, List.length_append, List.length_cons, List.length_nil, List.length_take, List.length_drop, cells_int, cells_bool, cells_agg, cells_sl, cells_clo, cells_und, wcs_len, List.length_replicate, List.length_set]; omega)) only [go_sem, simprocAttr]
    refine wcall (c72 b hv (hlen hc)) ?_
    simp -failIfUnchanged (disch := first | omega | (simp only [List.length_map, List.length_append, List.length_cons, List.length_nil, List.length_take, List.length_drop, cells_int, cells_bool, cells_agg, cells_sl, cells_clo, cells_und, wcs_len, List.length_replicate, List.length_set]; done) | (simp only [List.length_map, List.length_append, List.length_cons, List.length_nil, List.length_take, List.length_drop, cells_int, cells_bool, cells_agg, cells_sl, cells_clo, cells_und, wcs_len, List.length_replicate, List.length_set]; omega)) only [go_sem, simprocAttr]
    refine wcond_dec (fun h0 => ?_) (fun h0 => ?_)
    · simp -failIfUnchanged (disch := first | omega | (simp only [List.length_map, List.length_append, List.length_cons, List.length_nil, List.length_take, List.length_drop, cells_int, cells_bool, cells_agg, cells_sl, cells_clo, cells_und, wcs_len, List.length_replicate, List.length_set]; done) | (simp only [List.length_map, List.length_append, List.length_cons, List.length_nil, List.length_take, List.length_drop, cells_int, cells_bool, cells_agg, cells_sl, cells_clo, cells_und, wcs_len, List.length_replicate, List.length_set]; omega)) only [go_sem, simprocAttr, h0]
      rfl
    · simp -failIfUnchanged (disch := first | omega | (simp only [List.length_map, List.length_append, List.length_cons, List.length_nil, List.length_take, List.length_drop, cells_int, cells_bool, cells_agg, cells_sl, cells_clo, cells_und, wcs_len, List.length_replicate, List.length_set]; done) | (simp only [List.length_map, List.length_append, List.length_cons, List.length_nil, List.length_take, List.length_drop, cells_int, cells_bool, cells_agg, cells_sl, cells_clo, cells_und, wcs_len, List.length_replicate, List.length_set]; omega)) only [go_sem, simprocAttr, h0]
      have hmem : ∀ {l : List Nat}, l ∈ retA b → l.length = b.cords.length + 1 ∧ ∀ x ∈ l, x < allN b := fun h => fr_mem (ret_mem h).1
      have hRl : (retA b).length < 4294967296 := by
        have h1 := hlen hc
        have : (retA b).length ≤ (frNs b).length := by
          unfold retA retL
          rw [List.take_length]
          exact List.length_filter_le _ _
        omega
      have hbl : ∀ c, blL b (c + 1) = blL b c ++ if (retA b).any (fun l => decide (0 < kn1 b c l)) then [(c : Int)] else [] := by
        intro c
        unfold blL
        rw [List.range_succ, List.filter_append, List.map_append]
        congr 1
        by_cases h : blR b c = true
        · rw [List.filter_cons_of_pos (by simpa using h)]
          have h' : (retA b).any (fun l => decide (0 < kn1 b c l)) = true := h
          rw [if_pos h']
          simp
        · rw [List.filter_cons_of_neg (by simpa using h)]
          have h' : ¬ (retA b).any (fun l => decide (0 < kn1 b c l)) = true := h
          rw [if_neg h']
          simp
      have hbl0 : blL b 0 = [] := by simp [blL]
      have hbll : ∀ c, (blL b c).length ≤ c := fun c => by
        unfold blL
        rw [List.length_map]
        have := List.length_filter_le (blR b) (List.range c)
        simpa using this
      generalize hL : retA b = L at *
      refine wp_loop' Nat (fun c => ⟨[(1, .ptr 1 0), (5, ISS (L.map nat)), (7, .sl 1 ((blL b c).map .int) (.own 7)), (8, .int c)], [(1, ⟨[.int b.base, .int b.places, .sl 1 (b.cords.map SS) .sh, SS b.top], false⟩)], [(7, (blL b c).length)], none⟩) (fun c => c ≤ b.cords.length + 1) (fun c => b.cords.length + 1 - c) 0 (by simp) (by rw [hbl0]; simp -failIfUnchanged (disch := first | omega | (simp only [List.length_map, List.length_append, List.length_cons, List.length_nil, List.length_take, List.length_drop, cells_int, cells_bool, cells_agg, cells_sl, cells_clo, cells_und, wcs_len, List.length_replicate, List.length_set]; done) | (simp only [List.length_map, List.length_append, List.length_cons, List.length_nil, List.length_take, List.length_drop, cells_int, cells_bool, cells_agg, cells_sl, cells_clo, cells_und, wcs_len, List.length_replicate, List.length_set]; omega)) only [go_sem, simprocAttr]; try simp [← hL]) ?_
      intro c hcc
      have hbc := hbll c
      simp -failIfUnchanged (disch := first | omega | (simp only [List.length_map, List.length_append, List.length_cons, List.length_nil, List.length_take, List.length_drop, cells_int, cells_bool, cells_agg, cells_sl, cells_clo, cells_und, wcs_len, List.length_replicate, List.length_set]; done) | (simp only [List.length_map, List.length_append, List.length_cons, List.length_nil, List.length_take, List.length_drop, cells_int, cells_bool, cells_agg, cells_sl, cells_clo, cells_und, wcs_len, List.length_replicate, List.length_set]; omega)) only [go_sem, simprocAttr]
      refine wcond_dec (fun h1 => ?_) (fun h1 => ?_)
      · have hclt : c ≤ b.cords.length := by omega
        simp -failIfUnchanged (disch := first | omega | (simp only [List.length_map, List.length_append, List.length_cons, List.length_nil, List.length_take, List.length_drop, cells_int, cells_bool, cells_agg, cells_sl, cells_clo, cells_und, wcs_len, List.length_replicate, List.length_set]; done) | (simp only [List.length_map, List.length_append, List.length_cons, List.length_nil, List.length_take, List.length_drop, cells_int, cells_bool, cells_agg, cells_sl, cells_clo, cells_und, wcs_len, List.length_replicate, List.length_set]; omega)) only [go_sem, simprocAttr]
        refine wp_loop' Nat (fun i => ⟨[(1, .ptr 1 0), (5, ISS (L.map nat)), (7, .sl 1 ((blL b c).map .int) (.own 7)), (8, .int c), (9, .bool ((L.take i).any fun l => decide (0 < kn1 b c l))), (10, .int i)], [(1, ⟨[.int b.base, .int b.places, .sl 1 (b.cords.map SS) .sh, SS b.top], false⟩)], [(7, (blL b c).length)], none⟩) (fun i => i ≤ L.length) (fun i => L.length - i) 0 (by simp) (by simp -failIfUnchanged (disch := first | omega | (simp only [List.length_map, List.length_append, List.length_cons, List.length_nil, List.length_take, List.length_drop, cells_int, cells_bool, cells_agg, cells_sl, cells_clo, cells_und, wcs_len, List.length_replicate, List.length_set]; done) | (simp only [List.length_map, List.length_append, List.length_cons, List.length_nil, List.length_take, List.length_drop, cells_int, cells_bool, cells_agg, cells_sl, cells_clo, cells_und, wcs_len, List.length_replicate, List.length_set]; omega)) only [go_sem, simprocAttr]; try simp) ?_
        intro i hi
        simp -failIfUnchanged (disch := first | omega | (simp only [List.length_map, List.length_append, List.length_cons, List.length_nil, List.length_take, List.length_drop, cells_int, cells_bool, cells_agg, cells_sl, cells_clo, cells_und, wcs_len, List.length_replicate, List.length_set]; done) | (simp only [List.length_map, List.length_append, List.length_cons, List.length_nil, List.length_take, List.length_drop, cells_int, cells_bool, cells_agg, cells_sl, cells_clo, cells_und, wcs_len, List.length_replicate, List.length_set]; omega)) only [go_sem, simprocAttr]
        refine wcond_dec (fun h2 => ?_) (fun h2 => ?_)
        · have hlt : i < L.length := by omega
          obtain ⟨l, hl⟩ : ∃ l, L[i]? = some l := ⟨L[i], List.getElem?_eq_getElem hlt⟩
          have e0 : L[i]?.getD default = l := by rw [hl]; rfl
          have e1 : (L.map nat)[i]?.getD default = nat l := by simp [hl]
          have hlm := hmem (List.mem_of_getElem? hl)
          have hnl : (nat l).length = b.cords.length + 1 := by rw [List.length_map]; exact hlm.1
          have hxl : l[c]?.getD default < allN b := hlm.2 _ (mem_getD (by omega))
          have hsn : (L.take (i + 1)).any (fun l => decide (0 < kn1 b c l)) = ((L.take i).any (fun l => decide (0 < kn1 b c l)) || decide (0 < kn1 b c l)) := by
            rw [take_snoc hlt, List.any_append, e0]
            simp
          simp -failIfUnchanged (disch := first | omega | (simp only [List.length_map, List.length_append, List.length_cons, List.length_nil, List.length_take, List.length_drop, cells_int, cells_bool, cells_agg, cells_sl, cells_clo, cells_und, wcs_len, List.length_replicate, List.length_set]; done) | (simp only [List.length_map, List.length_append, List.length_cons, List.length_nil, List.length_take, List.length_drop, cells_int, cells_bool, cells_agg, cells_sl, cells_clo, cells_und, wcs_len, List.length_replicate, List.length_set]; omega)) only [go_sem, simprocAttr]
          cases ha : (L.take i).any fun l => decide (0 < kn1 b c l) with
          | true =>
            rw [ha, Bool.true_or] at hsn
            simp -failIfUnchanged (disch := first | omega | (simp only [List.length_map, List.length_append, List.length_cons, List.length_nil, List.length_take, List.length_drop, cells_int, cells_bool, cells_agg, cells_sl, cells_clo, cells_und, wcs_len, List.length_replicate, List.length_set]; done) | (simp only [List.length_map, List.length_append, List.length_cons, List.length_nil, List.length_take, List.length_drop, cells_int, cells_bool, cells_agg, cells_sl, cells_clo, cells_und, wcs_len, List.length_replicate, List.length_set]; omega)) only [go_sem, simprocAttr]
            refine ⟨i + 1, by omega, by dsimp only; omega, ?_⟩
            dsimp only
            rw [hsn]
            simp -failIfUnchanged (disch := first | omega | (simp only [List.length_map, List.length_append, List.length_cons, List.length_nil, List.length_take, List.length_drop, cells_int, cells_bool, cells_agg, cells_sl, cells_clo, cells_und, wcs_len, List.length_replicate, List.length_set]; done) | (simp only [List.length_map, List.length_append, List.length_cons, List.length_nil, List.length_take, List.length_drop, cells_int, cells_bool, cells_agg, cells_sl, cells_clo, cells_und, wcs_len, List.length_replicate, List.length_set]; omega)) only [go_sem, simprocAttr]
            try simp
          | false =>
            rw [ha, Bool.false_or] at hsn
            simp -failIfUnchanged (disch := first | omega | (simp only [List.length_map, List.length_append, List.length_cons, List.length_nil, List.length_take, List.length_drop, cells_int, cells_bool, cells_agg, cells_sl, cells_clo, cells_und, wcs_len, List.length_replicate, List.length_set]; done) | (simp only [List.length_map, List.length_append, List.length_cons, List.length_nil, List.length_take, List.length_drop, cells_int, cells_bool, cells_agg, cells_sl, cells_clo, cells_und, wcs_len, List.length_replicate, List.length_set]; omega)) only [go_sem, simprocAttr]
            refine wcall (c32 b c hclt) ?_
            simp -failIfUnchanged (disch := first | omega | (simp only [List.length_map, List.length_append, List.length_cons, List.length_nil, List.length_take, List.length_drop, cells_int, cells_bool, cells_agg, cells_sl, cells_clo, cells_und, wcs_len, List.length_replicate, List.length_set]; done) | (simp only [List.length_map, List.length_append, List.length_cons, List.length_nil, List.length_take, List.length_drop, cells_int, cells_bool, cells_agg, cells_sl, cells_clo, cells_und, wcs_len, List.length_replicate, List.length_set]; omega)) only [go_sem, simprocAttr, e1, nat_get]
            refine wcall (c69 b hv (l[c]?.getD default) (by omega)) ?_
            simp -failIfUnchanged (disch := first | omega | (simp only [List.length_map, List.length_append, List.length_cons, List.length_nil, List.length_take, List.length_drop, cells_int, cells_bool, cells_agg, cells_sl, cells_clo, cells_und, wcs_len, List.length_replicate, List.length_set]; done) | (simp only [List.length_map, List.length_append, List.length_cons, List.length_nil, List.length_take, List.length_drop, cells_int, cells_bool, cells_agg, cells_sl, cells_clo, cells_und, wcs_len, List.length_replicate, List.length_set]; omega)) only [go_sem, simprocAttr]
            refine wcall (c75r b hv hclt l) ?_
            simp -failIfUnchanged (disch := first | omega | (simp only [List.length_map, List.length_append, List.length_cons, List.length_nil, List.length_take, List.length_drop, cells_int, cells_bool, cells_agg, cells_sl, cells_clo, cells_und, wcs_len, List.length_replicate, List.length_set]; done) | (simp only [List.length_map, List.length_append, List.length_cons, List.length_nil, List.length_take, List.length_drop, cells_int, cells_bool, cells_agg, cells_sl, cells_clo, cells_und, wcs_len, List.length_replicate, List.length_set]; omega)) only [go_sem, simprocAttr]
            refine ⟨i + 1, by omega, by dsimp only; omega, ?_⟩
            dsimp only
            rw [hsn]
            simp -failIfUnchanged (disch := first | omega | (simp only [List.length_map, List.length_append, List.length_cons, List.length_nil, List.length_take, List.length_drop, cells_int, cells_bool, cells_agg, cells_sl, cells_clo, cells_und, wcs_len, List.length_replicate, List.length_set]; done) | (simp only [List.length_map, List.length_append, List.length_cons, List.length_nil, List.length_take, List.length_drop, cells_int, cells_bool, cells_agg, cells_sl, cells_clo, cells_und, wcs_len, List.length_replicate, List.length_set]; omega)) only [go_sem, simprocAttr]
            try simp
        · have e : i = L.length := by omega
          subst e
          rw [List.take_length]
          have hb := hbl c
          simp -failIfUnchanged (disch := first | omega | (simp only [List.length_map, List.length_append, List.length_cons, List.length_nil, List.length_take, List.length_drop, cells_int, cells_bool, cells_agg, cells_sl, cells_clo, cells_und, wcs_len, List.length_replicate, List.length_set]; done) | (simp only [List.length_map, List.length_append, List.length_cons, List.length_nil, List.length_take, List.length_drop, cells_int, cells_bool, cells_agg, cells_sl, cells_clo, cells_und, wcs_len, List.length_replicate, List.length_set]; omega)) only [go_sem, simprocAttr]
          cases ha : L.any fun l => decide (0 < kn1 b c l) with
          | true =>
            rw [ha, if_pos rfl] at hb
            simp -failIfUnchanged (disch := first | omega | (simp only [List.length_map, List.length_append, List.length_cons, List.length_nil, List.length_take, List.length_drop, cells_int, cells_bool, cells_agg, cells_sl, cells_clo, cells_und, wcs_len, List.length_replicate, List.length_set]; done) | (simp only [List.length_map, List.length_append, List.length_cons, List.length_nil, List.length_take, List.length_drop, cells_int, cells_bool, cells_agg, cells_sl, cells_clo, cells_und, wcs_len, List.length_replicate, List.length_set]; omega)) only [go_sem, simprocAttr]
            refine ⟨c + 1, by omega, by dsimp only; omega, ?_⟩
            dsimp only
            rw [hb]
            simp -failIfUnchanged (disch := first | omega | (simp only [List.length_map, List.length_append, List.length_cons, List.length_nil, List.length_take, List.length_drop, cells_int, cells_bool, cells_agg, cells_sl, cells_clo, cells_und, wcs_len, List.length_replicate, List.length_set]; done) | (simp only [List.length_map, List.length_append, List.length_cons, List.length_nil, List.length_take, List.length_drop, cells_int, cells_bool, cells_agg, cells_sl, cells_clo, cells_und, wcs_len, List.length_replicate, List.length_set]; omega)) only [go_sem, simprocAttr]
            try simp
          | false =>
            rw [ha, if_neg (by simp), List.append_nil] at hb
            simp -failIfUnchanged (disch := first | omega | (simp only [List.length_map, List.length_append, List.length_cons, List.length_nil, List.length_take, List.length_drop, cells_int, cells_bool, cells_agg, cells_sl, cells_clo, cells_und, wcs_len, List.length_replicate, List.length_set]; done) | (simp only [List.length_map, List.length_append, List.length_cons, List.length_nil, List.length_take, List.length_drop, cells_int, cells_bool, cells_agg, cells_sl, cells_clo, cells_und, wcs_len, List.length_replicate, List.length_set]; omega)) only [go_sem, simprocAttr]
            refine ⟨c + 1, by omega, by dsimp only; omega, ?_⟩
            dsimp only
            rw [hb]
            simp -failIfUnchanged (disch := first | omega | (simp only [List.length_map, List.length_append, List.length_cons, List.length_nil, List.length_take, List.length_drop, cells_int, cells_bool, cells_agg, cells_sl, cells_clo, cells_und, wcs_len, List.length_replicate, List.length_set]; done) | (simp only [List.length_map, List.length_append, List.length_cons, List.length_nil, List.length_take, List.length_drop, cells_int, cells_bool, cells_agg, cells_sl, cells_clo, cells_und, wcs_len, List.length_replicate, List.length_set]; omega)) only [go_sem, simprocAttr]
            try simp
      · have e : c = b.cords.length + 1 := by omega
        subst e
        simp -failIfUnchanged (disch := first | omega | (simp only [List.length_map, List.length_append, List.length_cons, List.length_nil, List.length_take, List.length_drop, cells_int, cells_bool, cells_agg, cells_sl, cells_clo, cells_und, wcs_len, List.length_replicate, List.length_set]; done) | (simp only [List.length_map, List.length_append, List.length_cons, List.length_nil, List.length_take, List.length_drop, cells_int, cells_bool, cells_agg, cells_sl, cells_clo, cells_und, wcs_len, List.length_replicate, List.length_set]; omega)) only [go_sem, simprocAttr]

/-! The law. -/
theorem minC_spec (b : Bk) (L : List (List Nat)) : ∀ m, m ≤ L.length → (∀ l ∈ L.take m, minC b L m ≤ costN b l) ∧ (minC b L m = costN b (L[0]?.getD default) ∨ ∃ l ∈ L.take m, costN b l = minC b L m)
  | 0, _ => ⟨by simp, .inl (by simp [minC])⟩
  | m + 1, hm => by
    obtain ⟨h1, h2⟩ := minC_spec b L m (by omega)
    have e : minC b L (m + 1) = min (minC b L m) (costN b (L[m]?.getD default)) := by
      unfold minC
      rw [take_snoc (by omega), List.foldl_append]
      rfl
    rw [e, take_snoc (show m < L.length by omega)]
    generalize L[m]?.getD default = x
    refine ⟨fun l hl => ?_, ?_⟩
    · rcases List.mem_append.1 hl with hl | hl
      · have := h1 l hl; omega
      · simp only [List.mem_singleton] at hl
        subst hl
        omega
    · rcases Int.lt_or_le (costN b x) (minC b L m) with h | h
      · exact .inr ⟨x, by simp, by omega⟩
      · rcases h2 with h2 | ⟨l, hl, h2⟩
        · exact .inl (by omega)
        · exact .inr ⟨l, by simp [hl], by omega⟩

theorem least_spec {b : Bk} (hv : Val b) : (∀ l ∈ frNs b, leastB b ≤ costN b l) ∧ ∃ l ∈ frNs b, costN b l = leastB b := by
  have hbb := hv.hb
  have h0 : 0 < allN b := Nat.pow_pos (by omega)
  obtain ⟨l0, hl0⟩ := fr_some h0 b.cords.length [] rfl
  have hpos : 0 < (frNs b).length := List.length_pos_of_mem hl0
  obtain ⟨h1, h2⟩ := minC_spec b (frNs b) _ (Nat.le_refl _)
  rw [List.take_length] at h1 h2
  refine ⟨h1, ?_⟩
  rcases h2 with h2 | ⟨l, hl, h2⟩
  · exact ⟨_, mem_getD hpos, h2.symm⟩
  · exact ⟨l, hl, h2⟩

theorem least_k {b : Bk} (hv : Val b) : (solveL b yes3 yes2).k = leastB b := by
  obtain ⟨h1, h2⟩ := solveL_k hv yes3 yes2
  obtain ⟨h3, l, hl, h4⟩ := least_spec hv
  have h5 := h1 l hl (allOK_yes b l)
  have h6 := costN_bd hv l
  rcases h2 with h2 | ⟨l', hl', _, h7⟩
  · omega
  · have := h3 l' hl'
    omega

theorem blame_iff {b : Bk} (hv : Val b) {c p d : Nat} (hc : c ≤ b.cords.length) (hp : p < b.places.toNat) : (solveL b (onlyF yes3 c p d) yes2).k = leastB b ↔ ∃ l ∈ retA b, dgN b l c p = d := by
  obtain ⟨h1, h2⟩ := solveL_k hv (onlyF yes3 c p d) yes2
  obtain ⟨h3, l0, hl0, h4⟩ := least_spec hv
  have h6 := costN_bd hv l0
  have hok : ∀ l, allOK b (onlyF yes3 c p d) yes2 l = decide (dgN b l c p = d) := fun l => by rw [allOK_only hc hp, allOK_yes, Bool.true_and]
  constructor
  · intro h
    rcases h2 with h2 | ⟨l, hl, h7, h8⟩
    · omega
    · rw [hok, decide_eq_true_eq] at h7
      refine ⟨l, ?_, h7⟩
      unfold retA retL
      rw [List.take_length]
      exact List.mem_filter.2 ⟨hl, by rw [h8, h]; simp⟩
  · rintro ⟨l, hl, h7⟩
    obtain ⟨hl1, hl2⟩ := ret_mem hl
    have h8 := h1 l hl1 (by rw [hok, h7]; simp)
    rcases h2 with h2 | ⟨l', hl', _, h9⟩
    · omega
    · have := h3 l' hl'
      omega

theorem blame_eq {b : Bk} (hv : Val b) {c : Nat} (hc : c ≤ b.cords.length) : blameC b c = blR b c := by
  have hcl := (cordAt_val hv hc).1
  have hpp := hv.hp
  have hB : 0 < b.base.toNat := by have := hv.hb; omega
  have hAt : (allC b)[c]?.getD default = cordAt b c := allC_at' c hc
  rw [Bool.eq_iff_iff]
  unfold blameC blR
  rw [hAt, List.any_eq_true, List.any_eq_true]
  constructor
  · rintro ⟨p, hp, h⟩
    obtain ⟨d, hd, h⟩ := List.any_eq_true.1 h
    have hp' : p < b.places.toNat := by have := List.mem_range.1 hp; omega
    unfold blameAt at h
    rw [hAt, Bool.and_eq_true, decide_eq_true_eq, decide_eq_true_eq, least_k hv, blame_iff hv hc hp'] at h
    obtain ⟨h1, l, hl, h2⟩ := h
    refine ⟨l, hl, ?_⟩
    rw [decide_eq_true_eq]
    have hn := isum_nonneg (n := b.places.toNat) (f := fun p => costL (cordSp b c p) (dgN b l c p : Nat)) fun _ _ => costL_nonneg _ _
    rcases Int.lt_or_le 0 (kn1 b c l) with h | h
    · exact h
    · have h0 : kn1 b c l = 0 := by unfold kn1 at h ⊢; omega
      have := (isum_eq0 fun _ _ => costL_nonneg _ _).1 h0 p hp'
      rw [h2] at this
      unfold cordSp at this
      omega
  · rintro ⟨l, hl, h⟩
    rw [decide_eq_true_eq] at h
    have : ∃ p, p < b.places.toNat ∧ costL (cordSp b c p) (dgN b l c p : Nat) ≠ 0 := by
      apply Classical.byContradiction
      intro hn
      have : kn1 b c l = 0 := (isum_eq0 fun _ _ => costL_nonneg _ _).2 fun p hp => Classical.byContradiction fun h => hn ⟨p, hp, h⟩
      omega
    obtain ⟨p, hp, h1⟩ := this
    refine ⟨p, List.mem_range.2 (by omega), List.any_eq_true.2 ⟨dgN b l c p, List.mem_range.2 (Nat.mod_lt _ hB), ?_⟩⟩
    unfold blameAt
    rw [hAt, Bool.and_eq_true, decide_eq_true_eq, decide_eq_true_eq, least_k hv, blame_iff hv hc hp]
    refine ⟨?_, l, hl, rfl⟩
    have := costL_nonneg (cordSp b c p) (dgN b l c p : Nat)
    unfold cordSp at this h1
    omega

theorem blameL_eq {b : Bk} (hv : Val b) : blameL b (b.cords.length + 1) = blL b (b.cords.length + 1) := by
  unfold blameL blL
  congr 1
  refine List.filter_congr fun c hc => ?_
  exact blame_eq hv (by have := List.mem_range.1 hc; omega)

theorem blL_none {b : Bk} (hv : Val b) : (blL b (b.cords.length + 1)).length = 0 ↔ leastB b = 0 := by
  obtain ⟨h3, l0, hl0, h4⟩ := least_spec hv
  have hl0' : l0 ∈ retA b := by
    unfold retA retL
    rw [List.take_length]
    exact List.mem_filter.2 ⟨hl0, by rw [h4]; simp⟩
  have hnn : ∀ l : List Nat, ∀ c, c < b.cords.length + 1 → 0 ≤ kn1 b c l := fun l c hc => (knotsL_bd hv (by omega) l).1
  constructor
  · intro h
    have hnil : (List.range (b.cords.length + 1)).filter (blR b) = [] := by
      unfold blL at h
      rw [List.length_map] at h
      exact List.eq_nil_of_length_eq_zero h
    have : costN b l0 = 0 := (isum_eq0 (hnn l0)).2 fun c hc => by
      have := List.filter_eq_nil_iff.1 hnil c (List.mem_range.2 hc)
      have h2 : ¬ 0 < kn1 b c l0 := fun h => this (List.any_eq_true.2 ⟨l0, hl0', by simpa using h⟩)
      have := hnn l0 c hc
      omega
    omega
  · intro h
    unfold blL
    rw [List.length_map, List.length_eq_zero_iff, List.filter_eq_nil_iff]
    intro c hc hb
    obtain ⟨l, hl, h5⟩ := List.any_eq_true.1 hb
    rw [decide_eq_true_eq] at h5
    have h6 := (ret_mem hl).2
    rw [h] at h6
    have := (isum_eq0 (hnn l)).1 h6 c (List.mem_range.1 hc)
    omega

theorem c25r (b : Bk) (hs : Small b) : Ctr Try.prog 25 [KB b] (.tup [IS (blameV b).1, .int (blameV b).2]) := by
  have := c25 b hs
  unfold blameV
  cases hc : checkB b with
  | false =>
    rw [hc] at this
    exact this
  | true =>
    have hv := val_of_check hc
    rw [blameL_eq hv, hc, if_pos rfl] at this
    rw [if_pos rfl]
    by_cases h0 : leastB b = 0
    · rw [if_pos ((blL_none hv).2 h0)] at this
      rw [if_pos h0]
      exact this
    · rw [if_neg fun h => h0 ((blL_none hv).1 h)] at this
      rw [if_neg h0]
      exact this

theorem c4 (b : Bk) (h1 : b.cords.length < 9223372036854775808) : Ctr Try.prog 4 [KB b] (.bool true) := by
  refine ctr_of_wp hmix Try.func4 m4 rfl ?_
  unfold v4
  simp -failIfUnchanged (disch := first | omega | (simp only [List.length_map, List.length_append, List.length_cons, List.length_nil, List.length_take, List.length_drop, cells_int, cells_bool, cells_agg, cells_sl, cells_clo, cells_und, wcs_len, List.length_replicate, List.length_set]; done) | (simp only [List.length_map, List.length_append, List.length_cons, List.length_nil, List.length_take, List.length_drop, cells_int, cells_bool, cells_agg, cells_sl, cells_clo, cells_und, wcs_len, List.length_replicate, List.length_set]; omega)) only [go_sem, simprocAttr]
  refine wcall (c22 b h1) ?_
  cases hf : wideB b with
  | true =>
    simp -failIfUnchanged (disch := first | omega | (simp only [List.length_map, List.length_append, List.length_cons, List.length_nil, List.length_take, List.length_drop, cells_int, cells_bool, cells_agg, cells_sl, cells_clo, cells_und, wcs_len, List.length_replicate, List.length_set]; done) | (simp only [List.length_map, List.length_append, List.length_cons, List.length_nil, List.length_take, List.length_drop, cells_int, cells_bool, cells_agg, cells_sl, cells_clo, cells_und, wcs_len, List.length_replicate, List.length_set]; omega)) only [go_sem, simprocAttr]
    refine wcall c17 ?_
    simp -failIfUnchanged (disch := first | omega | (simp only [List.length_map, List.length_append, List.length_cons, List.length_nil, List.length_take, List.length_drop, cells_int, cells_bool, cells_agg, cells_sl, cells_clo, cells_und, wcs_len, List.length_replicate, List.length_set]; done) | (simp only [List.length_map, List.length_append, List.length_cons, List.length_nil, List.length_take, List.length_drop, cells_int, cells_bool, cells_agg, cells_sl, cells_clo, cells_und, wcs_len, List.length_replicate, List.length_set]; omega)) only [go_sem, simprocAttr]
  | false =>
    simp only [wideB, Bool.or_eq_false_iff, Bool.and_eq_false_iff] at hf
    obtain ⟨hh, hf2⟩ := hf
    have hs := small_small hh
    obtain ⟨k1, k2, k3⟩ := small_of_huge hh
    have hlen : checkB b = true → (frNs b).length < 4294967296 := fun hc => by
      have hv := val_of_check hc
      have hw : wideP b = false := by
        rcases hf2 with h | h
        · rw [hc] at h; cases h
        · exact h
      have hbb := hv.hb
      have := wide_pow hw (Nat.pow_pos (by omega))
      have := fr_count b
      omega
    have e23 : (if checkB b then AV.tup [.int (solveL b yes3 yes2).k, .int 0] else .tup [.int 0, .int 110]) = if checkB b then .tup [.int (leastB b), .int 0] else .tup [.int 0, .int 110] := by
      cases hc : checkB b with
      | false => rfl
      | true => rw [least_k (val_of_check hc)]
    have hr : ∃ x z : Int, (if checkB b then AV.tup [.int (leastB b), .int 0] else .tup [.int 0, .int 110]) = .tup [.int x, .int z] := by
      split
      · exact ⟨_, _, rfl⟩
      · exact ⟨_, _, rfl⟩
    obtain ⟨x, z, hr⟩ := hr
    have hbl : (blameV b).1.length < 4294967296 := by
      unfold blameV
      split
      · split
        · simp
        · unfold blL
          rw [List.length_map]
          have := List.length_filter_le (blR b) (List.range (b.cords.length + 1))
          rw [List.length_range] at this
          omega
      · simp
    have d23 := c23 b hs
    have d24 := c24 b hs hlen
    rw [e23, hr] at d23
    rw [hr] at d24
    simp -failIfUnchanged (disch := first | omega | (simp only [List.length_map, List.length_append, List.length_cons, List.length_nil, List.length_take, List.length_drop, cells_int, cells_bool, cells_agg, cells_sl, cells_clo, cells_und, wcs_len, List.length_replicate, List.length_set]; done) | (simp only [List.length_map, List.length_append, List.length_cons, List.length_nil, List.length_take, List.length_drop, cells_int, cells_bool, cells_agg, cells_sl, cells_clo, cells_und, wcs_len, List.length_replicate, List.length_set]; omega)) only [go_sem, simprocAttr]
    refine wcall (c18 b (by omega) (by omega) (fun x hx => by have := k3 x hx; omega)) ?_
    simp -failIfUnchanged (disch := first | omega | (simp only [List.length_map, List.length_append, List.length_cons, List.length_nil, List.length_take, List.length_drop, cells_int, cells_bool, cells_agg, cells_sl, cells_clo, cells_und, wcs_len, List.length_replicate, List.length_set]; done) | (simp only [List.length_map, List.length_append, List.length_cons, List.length_nil, List.length_take, List.length_drop, cells_int, cells_bool, cells_agg, cells_sl, cells_clo, cells_und, wcs_len, List.length_replicate, List.length_set]; omega)) only [go_sem, simprocAttr]
    refine wcall d23 ?_
    simp -failIfUnchanged (disch := first | omega | (simp only [List.length_map, List.length_append, List.length_cons, List.length_nil, List.length_take, List.length_drop, cells_int, cells_bool, cells_agg, cells_sl, cells_clo, cells_und, wcs_len, List.length_replicate, List.length_set]; done) | (simp only [List.length_map, List.length_append, List.length_cons, List.length_nil, List.length_take, List.length_drop, cells_int, cells_bool, cells_agg, cells_sl, cells_clo, cells_und, wcs_len, List.length_replicate, List.length_set]; omega)) only [go_sem, simprocAttr]
    refine wcall d24 ?_
    simp -failIfUnchanged (disch := first | omega | (simp only [List.length_map, List.length_append, List.length_cons, List.length_nil, List.length_take, List.length_drop, cells_int, cells_bool, cells_agg, cells_sl, cells_clo, cells_und, wcs_len, List.length_replicate, List.length_set]; done) | (simp only [List.length_map, List.length_append, List.length_cons, List.length_nil, List.length_take, List.length_drop, cells_int, cells_bool, cells_agg, cells_sl, cells_clo, cells_und, wcs_len, List.length_replicate, List.length_set]; omega)) only [go_sem, simprocAttr]
    refine wcall (c25r b hs) ?_
    simp -failIfUnchanged (disch := first | omega | (simp only [List.length_map, List.length_append, List.length_cons, List.length_nil, List.length_take, List.length_drop, cells_int, cells_bool, cells_agg, cells_sl, cells_clo, cells_und, wcs_len, List.length_replicate, List.length_set]; done) | (simp only [List.length_map, List.length_append, List.length_cons, List.length_nil, List.length_take, List.length_drop, cells_int, cells_bool, cells_agg, cells_sl, cells_clo, cells_und, wcs_len, List.length_replicate, List.length_set]; omega)) only [go_sem, simprocAttr]
    refine wcall (c26 b hs hlen) ?_
    simp -failIfUnchanged (disch := first | omega | (simp only [List.length_map, List.length_append, List.length_cons, List.length_nil, List.length_take, List.length_drop, cells_int, cells_bool, cells_agg, cells_sl, cells_clo, cells_und, wcs_len, List.length_replicate, List.length_set]; done) | (simp only [List.length_map, List.length_append, List.length_cons, List.length_nil, List.length_take, List.length_drop, cells_int, cells_bool, cells_agg, cells_sl, cells_clo, cells_und, wcs_len, List.length_replicate, List.length_set]; omega)) only [go_sem, simprocAttr]
    refine wcall (c27 _ _ hbl) ?_
    simp -failIfUnchanged (disch := first | omega | (simp only [List.length_map, List.length_append, List.length_cons, List.length_nil, List.length_take, List.length_drop, cells_int, cells_bool, cells_agg, cells_sl, cells_clo, cells_und, wcs_len, List.length_replicate, List.length_set]; done) | (simp only [List.length_map, List.length_append, List.length_cons, List.length_nil, List.length_take, List.length_drop, cells_int, cells_bool, cells_agg, cells_sl, cells_clo, cells_und, wcs_len, List.length_replicate, List.length_set]; omega)) only [go_sem, simprocAttr]
    refine wcall (c21 b b hs) ?_
    simp -failIfUnchanged (disch := first | omega | (simp only [List.length_map, List.length_append, List.length_cons, List.length_nil, List.length_take, List.length_drop, cells_int, cells_bool, cells_agg, cells_sl, cells_clo, cells_und, wcs_len, List.length_replicate, List.length_set]; done) | (simp only [List.length_map, List.length_append, List.length_cons, List.length_nil, List.length_take, List.length_drop, cells_int, cells_bool, cells_agg, cells_sl, cells_clo, cells_und, wcs_len, List.length_replicate, List.length_set]; omega)) only [go_sem, simprocAttr]
    refine wcall c17 ?_
    simp -failIfUnchanged (disch := first | omega | (simp only [List.length_map, List.length_append, List.length_cons, List.length_nil, List.length_take, List.length_drop, cells_int, cells_bool, cells_agg, cells_sl, cells_clo, cells_und, wcs_len, List.length_replicate, List.length_set]; done) | (simp only [List.length_map, List.length_append, List.length_cons, List.length_nil, List.length_take, List.length_drop, cells_int, cells_bool, cells_agg, cells_sl, cells_clo, cells_und, wcs_len, List.length_replicate, List.length_set]; omega)) only [go_sem, simprocAttr]

end Go.Proofs.Ytkkiipjfbebipaa

/- Plain law for KnotsEach: a right reading is one of the lists. -/
set_option linter.unusedSimpArgs false
set_option linter.unusedVariables false
set_option linter.unnecessarySimpa false
namespace Go.Proofs.Ytkkiipjfbebipaa
open Go Go.V

theorem sums_fit (b : Bk) : ∀ (k : Nat) (first l : List Nat), l ∈ sumsN b false k first →
    (∀ c, c < first.length → l[c]? = first[c]?) ∧ (∀ c, c < k → isN b (first.length + c) false (l[first.length + c]?.getD default) = true) ∧ fitsL b.top (tieN b.base.toNat b.places.toNat (l[first.length + k]?.getD default)) = true
  | 0, first, l, hl => by
    unfold sumsN at hl
    split at hl
    · next h =>
      simp only [List.mem_singleton] at hl
      subst hl
      simp only [Bool.false_or, Bool.and_eq_true] at h
      refine ⟨fun c hc => List.getElem?_append_left hc, fun c hc => by omega, ?_⟩
      simpa using h.2
    · simp at hl
  | k + 1, first, l, hl => by
    unfold sumsN at hl
    obtain ⟨n, hn, hl⟩ := List.mem_flatMap.1 hl
    obtain ⟨h1, h2, h3⟩ := sums_fit b k (first ++ [n]) l hl
    have hn2 := (List.mem_filter.1 hn).2
    simp only [List.length_append, List.length_singleton] at h1 h2 h3
    refine ⟨fun c hc => ?_, fun c hc => ?_, ?_⟩
    · rw [h1 c (by omega), List.getElem?_append_left hc]
    · rcases Nat.eq_zero_or_pos c with h | h
      · subst h
        rw [Nat.add_zero, h1 first.length (by omega), List.getElem?_append_right (Nat.le_refl _)]
        simpa using hn2
      · have := h2 (c - 1) (by omega)
        rwa [show first.length + 1 + (c - 1) = first.length + c by omega] at this
    · rwa [show first.length + 1 + k = first.length + (k + 1) by omega] at h3

/-- Each number of a right reading fits its cord. -/
theorem all_fits {b : Bk} {l : List Nat} (hl : l ∈ allNs b) {c : Nat} (hc : c ≤ b.cords.length) : fitsL (cordAt b c) (tieN b.base.toNat b.places.toNat (l[c]?.getD default)) = true := by
  obtain ⟨_, h2, h3⟩ := sums_fit b b.cords.length [] l hl
  simp only [List.length_nil, Nat.zero_add] at h2 h3
  rcases Nat.lt_or_ge c b.cords.length with h | h
  · simpa [isN] using h2 c h
  · have : c = b.cords.length := by omega
    subst this
    unfold cordAt
    rw [if_pos rfl]
    exact h3

theorem spanL_map {L : List (List Nat)} (f : List Nat → Int) (h : 0 < L.length) : (∃ l ∈ L, (spanL (L.map f) L.length).lo = f l) ∧ (∃ l ∈ L, (spanL (L.map f) L.length).hi = f l) ∧ ∀ l ∈ L, (spanL (L.map f) L.length).lo ≤ f l ∧ f l ≤ (spanL (L.map f) L.length).hi := by
  obtain ⟨⟨x, hx, h1⟩, ⟨y, hy, h2⟩, h3⟩ := spanL_spec (L.map f) (by simpa using h) L.length h (by simp)
  have e : (L.map f).take L.length = L.map f := List.take_of_length_le (by simp)
  rw [e] at hx hy h3
  obtain ⟨l, hl, rfl⟩ := List.mem_map.1 hx
  obtain ⟨k, hk, rfl⟩ := List.mem_map.1 hy
  exact ⟨⟨l, hl, h1⟩, ⟨k, hk, h2⟩, fun m hm => h3 _ (List.mem_map.2 ⟨m, hm, rfl⟩)⟩

/-! Greater digits, a greater number. -/
end Go.Proofs.Ytkkiipjfbebipaa

/- KnotsEach. -/
set_option linter.unusedSimpArgs false
set_option linter.unusedVariables false
set_option linter.unnecessarySimpa false
namespace Go.Proofs.Ytkkiipjfbebipaa
open Go Go.V

end Go.Proofs.Ytkkiipjfbebipaa
