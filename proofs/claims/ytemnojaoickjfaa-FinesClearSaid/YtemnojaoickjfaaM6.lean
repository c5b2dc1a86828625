/- Merged by program: T31, T32, T33, T34, T35, T36, T37, T38, T39, T40, T42, T43, T45, T47, T48, T49, T50, T51, T52, T53, T54. -/
import Derived.Test.YtemnojaoickjfaaM5
import Derived.DeepKeys4
import Derived.SizedLaws
/- The document's matchings. -/
set_option linter.unusedSimpArgs false
set_option linter.unusedVariables false
set_option linter.unnecessarySimpa false
namespace Go.Proofs.Ytemnojaoickjfaa
open Go Go.V

/-- A list is a matching just if each pair is so. -/
theorem gm_take {b : FB} (hv : VF b) {l : List Pa} : ∀ k, k ≤ l.length → ((∀ i, i < k → okAt b l i = true) ↔ GM b b.ones.length (l.take k))
  | 0, _ => ⟨fun _ => by simpa using gm_nil b _, fun _ i hi => by omega⟩
  | k + 1, hk => by
    have ih := gm_take hv (l := l) k (by omega)
    have hlt : k < l.length := by omega
    obtain ⟨p, hp⟩ : ∃ p, l[k]?.getD default = p := ⟨_, rfl⟩
    have hts : l.take (k + 1) = l.take k ++ [p] := by
      have e2 : l[k] = p := by rw [← hp, List.getElem?_eq_getElem hlt]; rfl
      rw [List.take_add_one, List.getElem?_eq_getElem hlt, e2]; rfl
    have h1 : w64 ((b.ones.length : Int) - 1) = (b.ones.length : Int) - 1 := w64_id (by have := hv.n1; omega)
    have h2 : w64 ((b.others.length : Int) - 1) = (b.others.length : Int) - 1 := w64_id (by have := hv.n2; omega)
    have hok : okAt b l k = true ↔ ((0 ≤ p.one ∧ p.one < (b.ones.length : Int)) ∧ (0 ≤ p.other ∧ p.other < (b.others.length : Int)) ∧ comB b.late (one b p.one.toNat) (oth b p.other.toNat) = true) ∧
        (0 < k → (l[k - 1]?.getD default).one < p.one) ∧ ∀ x ∈ l.take k, x.other ≠ p.other := by
      unfold okAt
      rw [hp]
      unfold oneI othI within
      rw [h1, h2]
      simp only [Bool.and_eq_true, decide_eq_true_eq, Bool.not_eq_true', Bool.and_eq_false_iff, decide_eq_false_iff_not, List.any_eq_false]
      constructor
      · rintro ⟨⟨a1, a2⟩, a3, a4, a5⟩
        exact ⟨⟨by omega, by omega, a3⟩, fun h => by rcases a4 with a4 | a4 <;> omega, a5⟩
      · rintro ⟨⟨a1, a2, a3⟩, a4, a5⟩
        refine ⟨⟨by omega, by omega⟩, a3, ?_, a5⟩
        by_cases h : 0 < k
        · exact .inr (by have := a4 h; omega)
        · exact .inl h
    constructor
    · intro h
      have hg := ih.1 fun i hi => h i (by omega)
      obtain ⟨b1, b2, b3⟩ := hok.1 (h k (by omega))
      rw [hts]
      refine ⟨fun x hx => ?_, ?_, ?_⟩
      · rcases List.mem_append.1 hx with hx | hx
        · exact hg.p x hx
        · simp at hx; subst hx; exact b1
      · rw [List.pairwise_append]
        refine ⟨hg.o, List.pairwise_singleton _ _, fun x hx y hy => ?_⟩
        simp at hy
        subst hy
        -- the one before is the greatest
        obtain ⟨i, hi, e⟩ := List.mem_iff_getElem.1 hx
        have hik : i < k := by simp at hi; omega
        have hk0 := b2 (by omega)
        by_cases e1 : i = k - 1
        · subst e1
          have : x = l[k - 1]?.getD default := by
            rw [← e, List.getElem_take, List.getElem?_eq_getElem (by omega)]
            rfl
          rw [this]
          exact hk0
        · have := List.pairwise_iff_getElem.1 hg.o i (k - 1) hi (by simp; omega) (by omega)
          rw [e, List.getElem_take] at this
          have e3 : l[k - 1]?.getD default = l[k - 1]'(by omega) := by rw [List.getElem?_eq_getElem (by omega)]; rfl
          rw [e3] at hk0
          omega
      · rw [List.pairwise_append]
        exact ⟨hg.d, List.pairwise_singleton _ _, fun x hx y hy => by simp at hy; subst hy; exact b3 x hx⟩
    · intro h i hi
      rw [hts] at h
      have hg : GM b b.ones.length (l.take k) := ⟨fun x hx => h.p x (by simp [hx]), (List.pairwise_append.1 h.o).1, (List.pairwise_append.1 h.d).1⟩
      by_cases e : i = k
      · subst e
        refine hok.2 ⟨h.p p (by simp), fun h0 => ?_, fun x hx => (List.pairwise_append.1 h.d).2.2 x hx p (by simp)⟩
        refine (List.pairwise_append.1 h.o).2.2 _ ?_ p (by simp)
        rw [List.getElem?_eq_getElem (by omega)]
        exact List.mem_take_iff_getElem.2 ⟨i - 1, by omega, rfl⟩
      · exact ih.2 hg i (by omega)
theorem mat_gm {b : FB} (hv : VF b) {l : List Pa} : matB b l = true ↔ GM b b.ones.length l := by
  have h := gm_take hv (l := l) l.length (Nat.le_refl _)
  rw [List.take_length] at h
  rw [← h]
  unfold matB
  rw [List.all_eq_true]
  exact ⟨fun h i hi => h i (List.mem_range.2 hi), fun h i hi => h i (List.mem_range.1 hi)⟩
theorem mat_snoc {b : FB} (hv : VF b) {q o : Nat} {m : List Pa} (h : GM b q m) (hq : q < b.ones.length) (ho : o < b.others.length) : matB b (m ++ [⟨(q : Int), (o : Int)⟩]) = (!usedB m o && comB b.late (one b q) (oth b o)) := by
  have e : (!usedB m o && comB b.late (one b q) (oth b o)) = decide (usedB m o = false ∧ comB b.late (one b q) (oth b o) = true) := by cases usedB m o <;> cases comB b.late (one b q) (oth b o) <;> rfl
  rw [e]
  by_cases hc : usedB m o = false ∧ comB b.late (one b q) (oth b o) = true
  · rw [decide_eq_true hc]
    exact (mat_gm hv).2 (gm_mono (gm_snoc h ho hc.1 hc.2) (by omega))
  · rw [decide_eq_false hc, Bool.eq_false_iff]
    intro hm
    have hg := (mat_gm hv).1 hm
    apply hc
    refine ⟨?_, by simpa using (hg.p ⟨(q : Int), (o : Int)⟩ (by simp)).2.2⟩
    rw [used_iff]
    exact fun p hp => (List.pairwise_append.1 hg.d).2.2 p hp ⟨(q : Int), (o : Int)⟩ (by simp)

/-! The recursion. -/
def mdO (k : Nat) : Option Nat → VM
  | none => .full
  | some y => .own (k + 2 + y)
def tkO (k : Nat) (x : Option Nat) (n : Nat) (tk : TkL) : TkL :=
  match x with
  | none => tk
  | some y => (k + 2 + y, n) :: tk
def outOK (k : Nat) (r : AV) (L : List (List Pa)) (tk' tk : TkL) : Prop :=
  ∃ x : Option Nat, r = .sl 1 (L.map PS) (mdO k x) ∧ tk' = tkO k x L.length tk
theorem inS_md {fr : FrL} {hp : HpL} {tk : TkL} {pd : Option Ex} {sz k n : Nat} {x : Option Nat} {L : List AV} : inScope ⟨fr, hp, tkO k x n tk, pd⟩ (.sl sz L (mdO k x)) = True := by
  cases x with
  | none => rfl
  | some y => simp [mdO, tkO, inS_own, getT]
theorem inS_md1 {fr : FrL} {hp : HpL} {tk : TkL} {pd : Option Ex} {sz k n a : Nat} {x : Option Nat} {L : List AV} : inScope ⟨fr, hp, (k, a) :: tkO k x n tk, pd⟩ (.sl sz L (mdO k x)) = True := by
  cases x with
  | none => rfl
  | some y =>
    have : ¬ k = k + 2 + y := by omega
    simp [mdO, tkO, inS_own, getT, this]
theorem inS_md2 {fr : FrL} {hp : HpL} {t tk : TkL} {pd : Option Ex} {sz k n : Nat} {x : Option Nat} {L : List AV} (h : LT t (tkO k x n tk)) : inScope ⟨fr, hp, t, pd⟩ (.sl sz L (mdO k x)) = True := by
  cases x with
  | none => rfl
  | some y =>
    have := h.1
    simp [mdO, inS_own, this]
theorem mtF_m5 {b : FB} (hv : VF b) {q : Nat} {m : List Pa} (h : GM b q m) (hq : q ≤ b.ones.length) : m.length ≤ 5 := by
  have := gm_len (gm_mono h hq)
  have := hv.n1
  omega

set_option maxHeartbeats 1600000 in
theorem c94w (b : FB) (hv : VF b) : ∀ (d : Nat) (m : List Pa) (k : Nat) (tk : TkL) (X : List FrL), d ≤ b.ones.length → GM b (b.ones.length - d) m → LT tk tk → (∀ i, k ≤ i → getT tk i = none) →
    (∀ τ : AS, τ.hp = [] → LT τ.tk tk → leX τ X) →
    CSem ⟨Try.prog, X, none, false⟩ 94 [FK b, PS m, .int ((b.ones.length - d : Nat) : Int)] [] tk none (fun r hp' tk' pd' => hp' = [] ∧ outOK k r (mtF b d m) tk' tk ∧ pd' = none) := by
  intro d
  induction d with
  | zero =>
    intro m k tk X hd hm hs hk hX
    refine csem_of_wp hmix Try.func94 (m94r k) rfl rfl ?_
    unfold v94r
    have e : ((b.ones.length - 0 : Nat) : Int) = (b.ones.length : Int) := by simp
    rw [e]
    have hk0 := hk k (Nat.le_refl _)
    simp -failIfUnchanged (disch := first | omega | (simp <;> omega) | fail) only [go_sem, simprocAttr]
    refine ⟨hk0, ?_⟩
    simp -failIfUnchanged (disch := first | omega | (simp <;> omega) | fail) only [go_sem, simprocAttr, eq_self]
    refine wopsW [] ⟨[(1, PS m)], [], tk, none⟩ ?_ (hX _ rfl hs) ?_
    · simp -failIfUnchanged (disch := first | omega | (simp <;> omega) | fail) only [go_sem, simprocAttr]
      exact leTk_any (LT_new hk0 hs)
    · simp -failIfUnchanged (disch := first | omega | (simp <;> omega) | fail) only [go_sem, simprocAttr]
      exact ⟨none, rfl, rfl⟩
  | succ d ih =>
    intro m k tk X hd hm hs hk hX
    obtain ⟨q, hq⟩ : ∃ q, b.ones.length - (d + 1) = q := ⟨_, rfl⟩
    have hq1 : b.ones.length - d = q + 1 := by omega
    have hql : q < b.ones.length := by omega
    have hn1 := hv.n1
    have hn2 := hv.n2
    rw [hq1] at ih
    rw [hq] at hm ⊢
    have e1 : ((q : Nat) : Int) + 1 = ((q + 1 : Nat) : Int) := by omega
    have hk0 := hk k (Nat.le_refl _)
    have hne : decide ((q : Int) = (b.ones.length : Int)) = false := decide_eq_false (by omega)
    have hm5 := mtF_m5 hv hm (by omega)
    refine csem_of_wp hmix Try.func94 (m94r k) rfl rfl ?_
    unfold v94r
    simp -failIfUnchanged (disch := first | omega | (simp <;> omega) | fail) only [go_sem, simprocAttr]
    refine ⟨hk0, ?_⟩
    simp -failIfUnchanged (disch := first | omega | (simp <;> omega) | fail) only [go_sem, simprocAttr, hne]
    refine wopsW [3] ⟨[(1, PS m), (2, .int q), (3, .ref 6 [.agg (FKc b)] 0 0)], [], tk, none⟩ ?_ (hX _ rfl hs) ?_
    · simp -failIfUnchanged (disch := first | omega | (simp <;> omega) | fail) only [go_sem, simprocAttr]
      exact leTk_any (LT_new hk0 hs)
    simp -failIfUnchanged (disch := first | omega | (simp <;> omega) | fail) only [go_sem, simprocAttr, e1]
    refine wcalli (ih m (k + 3) tk (_ :: X) (by omega) (gm_mono hm (by omega)) hs (fun i hi => hk i (by omega)) ?_) ?_
    · intro τ hτ hτk
      have := hX τ hτ hτk
      obtain ⟨f, hp, t, p⟩ := τ
      dsimp only at hτ
      subst hτ
      simp -failIfUnchanged (disch := first | omega | (simp <;> omega) | fail) only [go_sem, simprocAttr]
      exact this
    · rintro r hp' tk' pd' ⟨rfl, ⟨x0, rfl, rfl⟩, rfl⟩
      obtain ⟨S, hS⟩ : ∃ S : Nat → List (List Pa), ∀ o, S o = mtF b d m ++ (List.range o).flatMap fun o => if usedB m o = false ∧ comB b.late (one b q) (oth b o) = true then mtF b d (m ++ [⟨(q : Int), (o : Int)⟩]) else [] := ⟨_, fun _ => rfl⟩
      have hS0 : mtF b d m = S 0 := by rw [hS]; simp
      have hSs : ∀ o, S (o + 1) = S o ++ (if usedB m o = false ∧ comB b.late (one b q) (oth b o) = true then mtF b d (m ++ [⟨(q : Int), (o : Int)⟩]) else []) := fun o => by
        rw [hS, hS, List.range_succ, List.flatMap_append, ← List.append_assoc]
        simp
      have hSn : mtF b (d + 1) m = S b.others.length := by rw [hS, mtF, hq]
      have hSl : ∀ o, (S o).length ≤ (1 + o) * 6 ^ d := fun o => by
        rw [hS]
        have f2 := mtF_len hn2 d m
        have f3 := fm_len o (6 ^ d) (fun o => if usedB m o = false ∧ comB b.late (one b q) (oth b o) = true then mtF b d (m ++ [⟨(q : Int), (o : Int)⟩]) else []) fun o => by
          split
          · exact mtF_len hn2 d _
          · simp
        rw [List.length_append, Nat.add_mul, Nat.one_mul]
        omega
      have h6 : 6 ^ d ≤ 7776 := by
        have := Nat.pow_le_pow_right (n := 6) (by omega) (show d ≤ 5 by omega)
        simpa using this
      have hSb : ∀ o, o ≤ 5 → (S o).length ≤ 60000 := fun o ho => by
        have := hSl o
        have h7 : (1 + o) * 6 ^ d ≤ 6 * 7776 := Nat.mul_le_mul (by omega) h6
        omega
      rw [hSn]
      rw [hS0]
      -- the token of what is taken up, by a number of this depth's own
      obtain ⟨x1, hx1, hx2⟩ : ∃ x1 : Option Nat, mdO (k + 3) x0 = mdO k x1 ∧ tkO (k + 3) x0 (S 0).length tk = tkO k x1 (S 0).length tk := by
        cases x0 with
        | none => exact ⟨none, rfl, rfl⟩
        | some y => exact ⟨some (y + 3), by simp only [mdO]; rw [show k + 3 + 2 + y = k + 2 + (y + 3) by omega], by simp only [tkO]; rw [show k + 3 + 2 + y = k + 2 + (y + 3) by omega]⟩
      rw [hx1, hx2]
      have hfr : ∀ (x : Option Nat) (n i : Nat), (∀ y, x = some y → i ≠ k + 2 + y) → k ≤ i → getT (tkO k x n tk) i = none := fun x n i hi hki => by
        cases x with
        | none => exact hk i hki
        | some y =>
          simp only [tkO, getT]
          rw [if_neg (fun e => hi y rfl e.symm)]
          exact hk i hki
      have hlt : ∀ (x : Option Nat) (n : Nat), LT (tkO k x n tk) tk := fun x n => by
        cases x with
        | none => exact hs
        | some y => exact LT_new (hk _ (by omega)) hs
      have hll : ∀ (x : Option Nat) (n : Nat), LT (tkO k x n tk) (tkO k x n tk) := fun x n => by
        cases x with
        | none => exact hs
        | some y => exact ⟨by simp [tkO, getT], LT_new (hk _ (by omega)) hs⟩
      have hXx : ∀ (f : FrL) (x : Option Nat) (n : Nat), leX ⟨f, [], tkO k x n tk, none⟩ X := fun f x n => hX _ rfl (hlt x n)
      simp -failIfUnchanged (disch := first | omega | (simp <;> omega) | fail) only [go_sem, simprocAttr]
      refine wp_loopY (Nat × Option Nat) (fun st => ⟨[(1, PS m), (2, .int q), (3, .ref 6 [.agg (FKc b)] 0 0), (7, .sl 1 ((S st.1).map PS) (mdO k st.2)), (8, .int st.1)], [], tkO k st.2 (S st.1).length tk, none⟩) (fun st => st.1 ≤ b.others.length) (fun st => b.others.length - st.1) (0, x1) (by simp) ?_ (fun st => hXx _ _ _) ?_
      · have hl := hll x1 (S 0).length
        refine ⟨?_, trivial, leTk_any hl, rfl⟩
        simp -failIfUnchanged (disch := first | omega | (simp <;> omega) | fail) only [go_sem, simprocAttr, inS_md]
        try simp
      · rintro ⟨o, x⟩ ho
        have ho : o ≤ b.others.length := ho
        dsimp only
        simp -failIfUnchanged (disch := first | omega | (simp <;> omega) | fail) only [go_sem, simprocAttr]
        refine wcond_dec (fun hc => ?_) (fun hc => ?_)
        · have hlt2 : o < b.others.length := by omega
          have hnx1 : o + 1 ≤ b.others.length := by omega
          have hnx2 : b.others.length - (o + 1) < b.others.length - o := by omega
          have hss := hSs o
          have hkn : getT (tkO k x (S o).length tk) k = none := hfr x _ k (fun y _ => by omega) (Nat.le_refl _)
          have hpa : m.map PA ++ [AV.agg [AV.int (q : Int), AV.int (o : Int)]] = (m ++ [(⟨(q : Int), (o : Int)⟩ : Pa)]).map PA := by simp
          have hmt := mat_snoc hv hm hql hlt2
          have k32 := c32 b hv (m ++ [(⟨(q : Int), (o : Int)⟩ : Pa)]) (by simp; omega)
          rw [hmt] at k32
          have hlx := hll x (S o).length
          have hlt1 := hlt x (S o).length
          simp -failIfUnchanged (disch := first | omega | (simp <;> omega) | fail) only [go_sem, simprocAttr]
          refine ⟨hkn, ?_⟩
          simp -failIfUnchanged (disch := first | omega | (simp <;> omega) | fail) only [go_sem, simprocAttr, hpa]
          refine wcall k32 ?_
          simp -failIfUnchanged (disch := first | omega | (simp <;> omega) | fail) only [go_sem, simprocAttr]
          refine wcond_bool (fun hu => ?_) (fun hu => ?_)
          · replace hu : usedB m o = false ∧ comB b.late (one b q) (oth b o) = true := by simpa using hu
            rw [if_pos hu] at hss
            obtain ⟨L2, hL2⟩ : ∃ L2, mtF b d (m ++ [⟨(q : Int), (o : Int)⟩]) = L2 := ⟨_, rfl⟩
            have ih2 := ih (m ++ [⟨(q : Int), (o : Int)⟩])
            rw [hL2] at hss ih2
            have hsm : (S (o + 1)).map PS = (S o).map PS ++ L2.map PS := by rw [hss, List.map_append]
            have hsl : (S (o + 1)).length = (S o).length + L2.length := by rw [hss, List.length_append]
            have hsb := hSb (o + 1) (by omega)
            simp -failIfUnchanged (disch := first | omega | (simp <;> omega) | fail) only [go_sem, simprocAttr]
            refine wopsW [] ⟨[(1, PS m), (2, .int q), (3, .ref 6 [.agg (FKc b)] 0 0), (7, .sl 1 ((S o).map PS) (mdO k x)), (8, .int o), (9, PS (m ++ [⟨(q : Int), (o : Int)⟩]))], [], tkO k x (S o).length tk, none⟩ ?_ (hXx _ _ _) ?_
            · refine ⟨?_, trivial, leTk_any (LT_new hkn hlx), rfl⟩
              simp -failIfUnchanged (disch := first | omega | (simp <;> omega) | fail) only [go_sem, simprocAttr, inS_md1, inS_md]
              try simp
            simp -failIfUnchanged (disch := first | omega | (simp <;> omega) | fail) only [go_sem, simprocAttr, e1]
            refine wcalli (ih2 (k + 3 + (match x with | none => 0 | some y => y)) (tkO k x (S o).length tk) (_ :: X) (by omega) (gm_snoc hm hlt2 hu.1 hu.2) hlx (fun i hi => hfr x _ i (fun y hy => by subst hy; dsimp only at hi; omega) (by omega)) ?_) ?_
            · intro τ hτ hτk
              have := hX τ hτ (LT_trans hτk hlt1)
              obtain ⟨f, hp, t, p⟩ := τ
              dsimp only at hτ hτk
              subst hτ
              simp -failIfUnchanged (disch := first | omega | (simp <;> omega) | fail) only [go_sem, simprocAttr, inS_md2 hτk]
              exact this
            · rintro r hp' tk' pd' ⟨rfl, ⟨x2, rfl, rfl⟩, rfl⟩
              cases x with
              | none =>
                have g0 : getT (tkO (k + 3 + 0) x2 L2.length tk) (k + 2) = none := by
                  cases x2 with
                  | none => exact hk _ (by omega)
                  | some y =>
                    simp only [tkO, getT]
                    rw [if_neg (by omega)]
                    exact hk _ (by omega)
                have g1 : LT ((k + 2, (S (o + 1)).length) :: tkO (k + 3 + 0) x2 L2.length tk) ((k + 2 + 0, (S (o + 1)).length) :: tk) := by
                  refine ⟨by simp [getT], LT_new (hk _ (by omega)) ?_⟩
                  cases x2 with
                  | none => exact hs
                  | some y => exact LT_new (hk _ (by omega)) hs
                rw [hsl] at g1
                dsimp only [mdO, tkO] at g0 g1 ⊢
                simp -failIfUnchanged (disch := first | omega | (simp <;> omega) | fail) only [go_sem, simprocAttr]
                refine ⟨g0, ?_⟩
                simp -failIfUnchanged (disch := first | omega | (simp <;> omega) | fail) only [go_sem, simprocAttr]
                refine lpy_norm (fun st => hXx _ _ _) ⟨(o + 1, some 0), hnx1, hnx2, ?_⟩
                dsimp only
                rw [hsl, hsm]
                refine ⟨?_, trivial, leTk_any g1, rfl⟩
                dsimp only [mdO]
                simp -failIfUnchanged (disch := first | omega | (simp <;> omega) | fail) only [go_sem, simprocAttr]
                simp [getT]
              | some y =>
                have g0 : getT (tkO (k + 3 + y) x2 L2.length ((k + 2 + y, (S o).length) :: tk)) (k + 2 + y) = some (S o).length := by
                  cases x2 with
                  | none => simp [tkO, getT]
                  | some z =>
                    simp only [tkO, getT, if_true]
                    rw [if_neg (by omega)]
                have g1 : LT (setT (k + 2 + y) ((S o).length + L2.length) (tkO (k + 3 + y) x2 L2.length ((k + 2 + y, (S o).length) :: tk))) ((k + 2 + y, (S o).length + L2.length) :: tk) := by
                  cases x2 with
                  | none =>
                    simp only [tkO, setT, if_true]
                    exact ⟨by simp [getT], LT_new (hk _ (by omega)) hs⟩
                  | some z =>
                    simp only [tkO, setT, if_true]
                    rw [if_neg (by omega)]
                    refine ⟨?_, LT_new (hk _ (by omega)) (LT_new (hk _ (by omega)) hs)⟩
                    simp only [getT, if_true]
                    rw [if_neg (by omega)]
                have g2 := g1.1
                dsimp only [mdO, tkO] at g0 g1 g2 ⊢
                simp -failIfUnchanged (disch := first | omega | (simp <;> omega) | fail) only [go_sem, simprocAttr]
                refine ⟨g0, ?_⟩
                simp -failIfUnchanged (disch := first | omega | (simp <;> omega) | fail) only [go_sem, simprocAttr]
                refine lpy_norm (fun st => hXx _ _ _) ⟨(o + 1, some y), hnx1, hnx2, ?_⟩
                dsimp only
                rw [hsl, hsm]
                refine ⟨?_, trivial, leTk_any g1, rfl⟩
                dsimp only [mdO]
                simp -failIfUnchanged (disch := first | omega | (simp <;> omega) | fail) only [go_sem, simprocAttr, g2]
                simp
          · replace hu : ¬ (usedB m o = false ∧ comB b.late (one b q) (oth b o) = true) := by
              rintro ⟨h1, h2⟩
              rw [h1, h2] at hu
              cases hu
            rw [if_neg hu, List.append_nil] at hss
            simp -failIfUnchanged (disch := first | omega | (simp <;> omega) | fail) only [go_sem, simprocAttr]
            refine lpy_norm (fun st => hXx _ _ _) ⟨(o + 1, x), hnx1, hnx2, ?_⟩
            dsimp only
            rw [hss]
            refine ⟨?_, trivial, leTk_any (LT_new hkn hlx), rfl⟩
            simp -failIfUnchanged (disch := first | omega | (simp <;> omega) | fail) only [go_sem, simprocAttr, inS_md1, inS_md]
            try simp
        · have e : o = b.others.length := by omega
          subst e
          simp -failIfUnchanged (disch := first | omega | (simp <;> omega) | fail) only [go_sem, simprocAttr]
          exact ⟨x, rfl, rfl⟩

end Go.Proofs.Ytemnojaoickjfaa


/- The document's largest matchings. -/
set_option linter.unusedSimpArgs false
set_option linter.unusedVariables false
set_option linter.unnecessarySimpa false
namespace Go.Proofs.Ytemnojaoickjfaa
open Go Go.V

theorem csem_shi {E : Env} {f : FuncId} {sz : Nat} {es : List AV} {md : VM} {pre r : List AV} {hp : HpL} {tk : TkL} {pd : Option Ex} {Q : AV → HpL → TkL → Option Ex → Prop} (h : CSem E f (pre ++ .sl sz es .sh :: r) hp tk pd Q) : CSem E f (pre ++ .sl sz es md :: r) hp tk pd Q :=
  ⟨h.1, fun C0 w0 X K L w vs h1 h2 h3 h4 => h.2 C0 w0 X K L w vs h1 h2 (by simpa using h3) (by
    obtain ⟨C, m', tk', own, hr⟩ := h4
    refine ⟨C, m', tk', own, ?_⟩
    refine { below := hr.below, c0 := hr.c0, cnew := hr.cnew, cval := hr.cval, nc := ⟨hr.nc.k, hr.nc.l, hr.nc.d, hr.nc.nd, hr.nc.dis, hr.nc.m⟩, ext := ?_, size := hr.size, slots := hr.slots, boxes := hr.boxes, mdom := hr.mdom, toks := hr.toks, tdom := hr.tdom, owned := hr.owned, owns := hr.owns }
    intro p hp t
    rcases List.mem_cons.1 hp with rfl | hp
    · have h5 := hr.ext (vs, args0 0 (pre ++ .sl sz es md :: r)) (by simp) t
      simp only [get_args] at h5 ⊢
      rcases Nat.lt_trichotomy t pre.length with e | e | e
      · rw [List.getElem?_append_left e] at h5 ⊢
        exact h5
      · subst e
        simp only [List.getElem?_append_right (Nat.le_refl _), Nat.sub_self, List.getElem?_cons_zero, Option.getD_some] at h5 ⊢
        have h6 := rep_sl h5
        exact h6.toRep
      · obtain ⟨u, rfl⟩ : ∃ u, t = pre.length + (u + 1) := ⟨t - pre.length - 1, by omega⟩
        rw [List.getElem?_append_right (by omega)] at h5 ⊢
        rw [show pre.length + (u + 1) - pre.length = u + 1 by omega, List.getElem?_cons_succ] at h5 ⊢
        exact h5
    · exact hr.ext p (List.mem_cons_of_mem _ hp) t)⟩

/-- The greatest length of the first k. -/
def mxK (l : List (List Pa)) : Nat → Nat
  | 0 => 0
  | k + 1 => max (mxK l k) (l[k]?.getD default).length
theorem mxK_ge (l : List (List Pa)) : ∀ k i, i < k → (l[i]?.getD default).length ≤ mxK l k
  | 0, i, h => by omega
  | k + 1, i, h => by
    unfold mxK
    by_cases e : i = k
    · subst e; exact Nat.le_max_right _ _
    · exact Nat.le_trans (mxK_ge l k i (by omega)) (Nat.le_max_left _ _)
theorem mxK_is (l : List (List Pa)) : ∀ k, mxK l k = 0 ∨ ∃ i, i < k ∧ (l[i]?.getD default).length = mxK l k
  | 0 => .inl rfl
  | k + 1 => by
    unfold mxK
    rcases Nat.le_total (mxK l k) (l[k]?.getD default).length with h | h
    · rw [Nat.max_eq_right h]
      exact .inr ⟨k, by omega, rfl⟩
    · rw [Nat.max_eq_left h]
      rcases mxK_is l k with h2 | ⟨i, h2, h3⟩
      · exact .inl h2
      · exact .inr ⟨i, by omega, h3⟩
theorem mx_most (b : FB) : mxK (allM b) (allM b).length = (fstM b).length := by
  obtain ⟨h1, h2, h3⟩ := fst_most b
  have h4 : fstM b ∈ allM b := by
    rw [h3, List.mem_filter] at h1
    exact h1.1
  apply Nat.le_antisymm
  · rcases mxK_is (allM b) (allM b).length with h | ⟨i, hi, h⟩
    · omega
    · rw [← h]
      exact h2 _ (mem_getD hi)
  · obtain ⟨i, hi, e⟩ := List.mem_iff_getElem.1 h4
    have := mxK_ge (allM b) (allM b).length i hi
    rw [List.getElem?_eq_getElem hi] at this
    rw [← e]
    exact this
def lgK (l : List (List Pa)) (M : Nat) (k : Nat) : List (List Pa) := (l.take k).filter fun x => decide (x.length = M)
theorem lgK_succ (l : List (List Pa)) (M k : Nat) (h : k < l.length) : lgK l M (k + 1) = lgK l M k ++ (if (l[k]?.getD default).length = M then [l[k]?.getD default] else []) := by
  unfold lgK
  rw [List.take_add_one, List.filter_append, List.getElem?_eq_getElem h]
  congr 1
  by_cases e : (l[k]).length = M <;> simp [e]
theorem lgK_len (l : List (List Pa)) (M k : Nat) (h : k ≤ l.length) : (lgK l M k).length ≤ k := by
  unfold lgK
  refine Nat.le_trans (List.length_filter_le _ _) ?_
  rw [List.length_take]
  omega

theorem c66 (b : FB) (hv : VF b) : Ctr Try.prog 66 [FK b] (.sl 1 ((lrgL b).map PS) .sh) := by
  refine ctr_of_wp hmix Try.func66 m66r rfl ?_
  unfold v66r
  have hw := c94w b hv b.ones.length [] 0 [] [[(8, FK b), (1, .ref 6 [.agg (FKc b)] 0 0)]] (Nat.le_refl _) (gm_nil b _) trivial (fun i _ => rfl) (fun τ _ _ => by
    obtain ⟨f, hp, t, p⟩ := τ
    simp -failIfUnchanged (disch := first | omega | (simp <;> omega) | fail) only [go_sem, simprocAttr])
  rw [Nat.sub_self] at hw
  have e0 : ((0 : Nat) : Int) = 0 := rfl
  rw [e0] at hw
  obtain ⟨M, hM⟩ : ∃ M, (fstM b).length = M := ⟨_, rfl⟩
  have hlr : lrgL b = lgK (allM b) M (allM b).length := by
    unfold lgK
    rw [List.take_length, ← hM]
    exact (fst_most b).2.2
  have hmx := mx_most b
  rw [hM] at hmx
  have hsm : (allM b).length ≤ 7776 := by
    have := mtF_len hv.n2 b.ones.length []
    have h2 := Nat.pow_le_pow_right (n := 6) (by omega) hv.n1
    unfold allM
    simp at h2
    omega
  have hg5 : ∀ x ∈ allM b, x.length ≤ 5 := fun x hx => by
    have := gm_len (mem_mtF.1 hx)
    have := hv.n1
    omega
  rw [hlr]
  change CSem _ _ _ _ _ _ (fun r hp' tk' pd' => hp' = [] ∧ outOK 0 r (allM b) tk' [] ∧ pd' = none) at hw
  generalize allM b = A at *
  simp -failIfUnchanged (disch := first | omega | (simp <;> omega) | fail) only [go_sem, simprocAttr]
  refine wopsW [1] ⟨[(1, .ref 6 [.agg (FKc b)] 0 0)], [], [], none⟩ (by simp -failIfUnchanged (disch := first | omega | (simp <;> omega) | fail) only [go_sem, simprocAttr]) (by simp -failIfUnchanged (disch := first | omega | (simp <;> omega) | fail) only [go_sem, simprocAttr]) ?_
  simp -failIfUnchanged (disch := first | omega | (simp <;> omega) | fail) only [go_sem, simprocAttr]
  refine wcalli (csem_shi (pre := [FK b]) hw) ?_
  rintro r hp' tk' pd' ⟨rfl, ⟨x, rfl, rfl⟩, rfl⟩
  have hat : ∀ i, i < A.length → (A.map PS)[i]?.getD .nul = PS (A[i]?.getD default) := fun i hi => by simp [hi]
  simp -failIfUnchanged (disch := first | omega | (simp <;> omega) | fail) only [go_sem, simprocAttr]
  refine wp_loop' Nat (fun i => ⟨[(3, .sl 1 (A.map PS) .sh), (4, .int (mxK A i : Nat)), (5, .int i)], [], [], none⟩) (fun i => i ≤ A.length) (fun i => A.length - i) 0 (by simp) (by cases x <;> (unfold mdO tkO; simp -failIfUnchanged (disch := first | omega | (simp <;> omega) | fail) only [go_sem, simprocAttr]; simp [mxK])) ?_
  intro i hi
  have hi : i ≤ A.length := hi
  simp -failIfUnchanged (disch := first | omega | (simp <;> omega) | fail) only [go_sem, simprocAttr]
  refine wcond_dec (fun h1 => ?_) (fun h1 => ?_)
  · have hil : i < A.length := by omega
    have e1 := hat i hil
    have hmk : mxK A (i + 1) = max (mxK A i) (A[i]?.getD default).length := rfl
    obtain ⟨t, ht⟩ : ∃ t, A[i]?.getD default = t := ⟨_, rfl⟩
    rw [ht] at e1 hmk
    simp -failIfUnchanged (disch := first | omega | (simp <;> omega) | fail) only [go_sem, simprocAttr, e1, ht]
    refine ⟨i + 1, by dsimp only; omega, by dsimp only; omega, ?_⟩
    dsimp only
    rw [hmk]
    simp -failIfUnchanged (disch := first | omega | (simp <;> omega) | fail) only [go_sem, simprocAttr]
    simp
    omega
  · have e : i = A.length := by omega
    subst e
    rw [hmx]
    simp -failIfUnchanged (disch := first | omega | (simp <;> omega) | fail) only [go_sem, simprocAttr]
    refine wp_loop' Nat (fun i => ⟨[(3, .sl 1 (A.map PS) .sh), (4, .int M), (6, .sl 1 ((lgK A M i).map PS) (.own 6)), (7, .int i)], [], [(6, (lgK A M i).length)], none⟩) (fun i => i ≤ A.length) (fun i => A.length - i) 0 (by simp) (by simp -failIfUnchanged (disch := first | omega | (simp <;> omega) | fail) only [go_sem, simprocAttr]; simp [lgK]) ?_
    intro i hi
    have hi : i ≤ A.length := hi
    simp -failIfUnchanged (disch := first | omega | (simp <;> omega) | fail) only [go_sem, simprocAttr]
    refine wcond_dec (fun h2 => ?_) (fun h2 => ?_)
    · have hil : i < A.length := by omega
      have e1 := hat i hil
      have hgs := lgK_succ A M i hil
      have hgl := lgK_len A M i hi
      obtain ⟨t, ht⟩ : ∃ t, A[i]?.getD default = t := ⟨_, rfl⟩
      rw [ht] at e1 hgs
      simp -failIfUnchanged (disch := first | omega | (simp <;> omega) | fail) only [go_sem, simprocAttr, e1, ht]
      refine wcond_dec (fun h3 => ?_) (fun h3 => ?_)
      · rw [if_pos (by omega)] at hgs
        simp -failIfUnchanged (disch := first | omega | (simp <;> omega) | fail) only [go_sem, simprocAttr, e1, ht]
        refine ⟨i + 1, by dsimp only; omega, by dsimp only; omega, ?_⟩
        dsimp only
        rw [hgs]
        simp -failIfUnchanged (disch := first | omega | (simp <;> omega) | fail) only [go_sem, simprocAttr]
        simp
      · rw [if_neg (by omega)] at hgs
        simp -failIfUnchanged (disch := first | omega | (simp <;> omega) | fail) only [go_sem, simprocAttr, e1, ht]
        refine ⟨i + 1, by dsimp only; omega, by dsimp only; omega, ?_⟩
        dsimp only
        rw [hgs, List.append_nil]
        simp -failIfUnchanged (disch := first | omega | (simp <;> omega) | fail) only [go_sem, simprocAttr]
        try simp
    · have e : i = A.length := by omega
      subst e
      simp -failIfUnchanged (disch := first | omega | (simp <;> omega) | fail) only [go_sem, simprocAttr]
      try simp

end Go.Proofs.Ytemnojaoickjfaa


/- FinesDays. -/
set_option linter.unusedSimpArgs false
set_option linter.unusedVariables false
set_option linter.unnecessarySimpa false
namespace Go.Proofs.Ytemnojaoickjfaa
open Go Go.V

theorem c29 (b : FB) (hs : SmF b) : Ctr Try.prog 29 [FK b] (fewR b) := by
  refine ctr_of_wp hmix Try.func29 m29 rfl ?_
  unfold v29 fewR
  have k1 := c49 b hs
  unfold errF at k1 ⊢
  cases hc : chkB b with
  | false =>
    rw [hc] at k1
    simp -failIfUnchanged (disch := first | omega | (simp <;> omega) | fail) only [go_sem, simprocAttr]
    refine wcall k1 ?_
    simp -failIfUnchanged (disch := first | omega | (simp <;> omega) | fail) only [go_sem, simprocAttr]
    try simp
  | true =>
    rw [hc] at k1
    have hv := vf_of hc
    have k2 := c66 b hv
    have h0 : 0 < (lrgL b).length := List.length_pos_iff.2 (lrgL_ne b)
    have e1 := fst_at (b := b)
    have hl := fst_len hv
    have hn1 := hv.n1
    have hn2 := hv.n2
    unfold fewI
    have hf : (lrgL b)[0]?.getD default = fstM b := rfl
    generalize lrgL b = M at k2 h0 e1 hf
    simp -failIfUnchanged (disch := first | omega | (simp <;> omega) | fail) only [go_sem, simprocAttr]
    refine wcall k1 ?_
    simp -failIfUnchanged (disch := first | omega | (simp <;> omega) | fail) only [go_sem, simprocAttr]
    refine wcall k2 ?_
    simp -failIfUnchanged (disch := first | omega | (simp <;> omega) | fail) only [go_sem, simprocAttr, e1, hf]
    try simp

theorem c55 (b : FB) (hv : VF b) (t : List Pa) (hg : GM b b.ones.length t) : Ctr Try.prog 55 [FK b, PS t] (.int (dsI b t)) := by
  refine ctr_of_wp hmix Try.func55 m55 rfl ?_
  unfold v55
  have htl := gm_len hg
  have hn1 := hv.n1
  have hn2 := hv.n2
  simp -failIfUnchanged (disch := first | omega | (simp <;> omega) | fail) only [go_sem, simprocAttr]
  refine wp_loop' Nat (fun j => ⟨[(1, PS t), (2, .ptr 2 0), (5, .int (dsK b t j)), (6, .int j)], [(2, ⟨FKc b, false⟩)], [], none⟩) (fun j => j ≤ t.length) (fun j => t.length - j) 0 (by simp) (by simp -failIfUnchanged (disch := first | omega | (simp <;> omega) | fail) only [go_sem, simprocAttr]; simp [dsK]) ?_
  intro j hj
  have hj : j ≤ t.length := hj
  simp -failIfUnchanged (disch := first | omega | (simp <;> omega) | fail) only [go_sem, simprocAttr]
  refine wcond_dec (fun h2 => ?_) (fun h2 => ?_)
  · have hjl : j < t.length := by omega
    obtain ⟨p, q, e, hp, hq, _⟩ := gm_at hg hjl
    have hb := dsK_bd hv hg j hj
    have hd := day_bd (one_v hv hp) (oth_v hv hq)
    have hst : dsK b t (j + 1) = dsK b t j + dayI (one b p) (oth b q) := by
      simp only [dsK, e, Int.toNat_natCast]
    have g1 : b.ones[p]?.getD default = one b p := rfl
    have g2 : b.others[q]?.getD default = oth b q := rfl
    simp -failIfUnchanged (disch := first | omega | (simp <;> omega) | fail) only [go_sem, simprocAttr, e, g1, g2]
    refine wcall (c90 (one b p) (oth b q)) ?_
    simp -failIfUnchanged (disch := first | omega | (simp <;> omega) | fail) only [go_sem, simprocAttr]
    refine ⟨j + 1, by dsimp only; omega, by dsimp only; omega, ?_⟩
    dsimp only
    rw [hst]
    simp -failIfUnchanged (disch := first | omega | (simp <;> omega) | fail) only [go_sem, simprocAttr]
    try simp
  · have ej : j = t.length := by omega
    subst ej
    have hds : dsK b t t.length = dsI b t := rfl
    rw [hds]
    simp -failIfUnchanged (disch := first | omega | (simp <;> omega) | fail) only [go_sem, simprocAttr]
    try simp

/-- The least sum of days, as the document has it. -/
def mnK (b : FB) (l : List (List Pa)) : Nat → Int
  | 0 => dsI b (l[0]?.getD default)
  | k + 1 => min (mnK b l k) (dsI b (l[k]?.getD default))
theorem ld_mn {b : FB} (hv : VF b) {l : List (List Pa)} (hg : ∀ x ∈ l, GM b b.ones.length x) : ∀ k, k + 1 ≤ l.length → ldK b l (k + 1) = mnK b l (k + 1)
  | 0, h => by simp [ldK, mnK]
  | k + 1, h => by
    have ih := ld_mn hv hg k (by omega)
    have hb : 0 ≤ mnK b l (k + 1) := by
      have key : ∀ j, j ≤ l.length → 0 ≤ mnK b l j := by
        intro j
        induction j with
        | zero => intro _; exact (dsK_bd hv (hg _ (mem_getD (by omega : 0 < l.length))) _ (Nat.le_refl _)).1
        | succ j ih2 =>
          intro hj
          have a1 := ih2 (by omega)
          have a2 := (dsK_bd hv (hg _ (mem_getD (by omega : j < l.length))) _ (Nat.le_refl _)).1
          unfold mnK
          have a3 : 0 ≤ dsI b (l[j]?.getD default) := a2
          omega
      exact key _ (by omega)
    have e1 : ldK b l (k + 1 + 1) = if ldK b l (k + 1) < 0 ∨ dsI b (l[k + 1]?.getD default) < ldK b l (k + 1) then dsI b (l[k + 1]?.getD default) else ldK b l (k + 1) := rfl
    have e2 : mnK b l (k + 1 + 1) = min (mnK b l (k + 1)) (dsI b (l[k + 1]?.getD default)) := rfl
    rw [e1, e2, ih]
    split <;> omega
def dayR (b : FB) : AV := .tup [.int (if chkB b then ldK b (lrgL b) (lrgL b).length else 0), .int (errF b)]

theorem c18 (b : FB) (hs : SmF b) : Ctr Try.prog 18 [FK b] (dayR b) := by
  refine ctr_of_wp hmix Try.func18 m18 rfl ?_
  unfold v18 dayR
  have k1 := c49 b hs
  unfold errF at k1 ⊢
  cases hc : chkB b with
  | false =>
    rw [hc] at k1
    simp -failIfUnchanged (disch := first | omega | (simp <;> omega) | fail) only [go_sem, simprocAttr]
    refine wcall k1 ?_
    simp -failIfUnchanged (disch := first | omega | (simp <;> omega) | fail) only [go_sem, simprocAttr]
    try simp
  | true =>
    rw [hc] at k1
    have hv := vf_of hc
    have k2 := c66 b hv
    have h0 : 0 < (lrgL b).length := List.length_pos_iff.2 (lrgL_ne b)
    have hgm : ∀ x ∈ lrgL b, GM b b.ones.length x := fun x hx => (mem_lrg.1 hx).1
    have hsm := lrg_small hv
    generalize lrgL b = M at k2 hgm h0 hsm ⊢
    have hlm : ldK b M M.length = mnK b M M.length := by
      have := ld_mn hv hgm (M.length - 1) (by omega)
      rwa [show M.length - 1 + 1 = M.length by omega] at this
    rw [hlm]
    have c55a : ∀ i, i < M.length → Ctr Try.prog 55 [FK b, PS (M[i]?.getD default)] (.int (dsI b (M[i]?.getD default))) := fun i hi => c55 b hv _ (hgm _ (mem_getD hi))
    have hat : ∀ i, i < M.length → (M.map PS)[i]?.getD .nul = PS (M[i]?.getD default) := fun i hi => by simp [hi]
    have c0 := c55a 0 h0
    have e0 := hat 0 h0
    simp -failIfUnchanged (disch := first | omega | (simp <;> omega) | fail) only [go_sem, simprocAttr]
    refine wcall k1 ?_
    simp -failIfUnchanged (disch := first | omega | (simp <;> omega) | fail) only [go_sem, simprocAttr]
    refine wcall k2 ?_
    simp -failIfUnchanged (disch := first | omega | (simp <;> omega) | fail) only [go_sem, simprocAttr, e0]
    refine wcall c0 ?_
    simp -failIfUnchanged (disch := first | omega | (simp <;> omega) | fail) only [go_sem, simprocAttr]
    refine wp_loop' Nat (fun i => ⟨[(1, .ptr 1 0), (5, .sl 1 (M.map PS) .sh), (6, .int (mnK b M i)), (7, .int i)], [(1, ⟨FKc b, false⟩)], [], none⟩) (fun i => i ≤ M.length) (fun i => M.length - i) 0 (by simp) (by simp -failIfUnchanged (disch := first | omega | (simp <;> omega) | fail) only [go_sem, simprocAttr]; simp [mnK]) ?_
    intro i hi
    have hi : i ≤ M.length := hi
    simp -failIfUnchanged (disch := first | omega | (simp <;> omega) | fail) only [go_sem, simprocAttr]
    refine wcond_dec (fun h1 => ?_) (fun h1 => ?_)
    · have hil : i < M.length := by omega
      have c1 := c55a i hil
      have e1 := hat i hil
      have hst : mnK b M (i + 1) = min (mnK b M i) (dsI b (M[i]?.getD default)) := rfl
      simp -failIfUnchanged (disch := first | omega | (simp <;> omega) | fail) only [go_sem, simprocAttr, e1]
      refine wcall c1 ?_
      simp -failIfUnchanged (disch := first | omega | (simp <;> omega) | fail) only [go_sem, simprocAttr]
      refine ⟨i + 1, by dsimp only; omega, by dsimp only; omega, ?_⟩
      dsimp only
      rw [hst]
      simp -failIfUnchanged (disch := first | omega | (simp <;> omega) | fail) only [go_sem, simprocAttr]
      try simp
    · have e : i = M.length := by omega
      subst e
      simp -failIfUnchanged (disch := first | omega | (simp <;> omega) | fail) only [go_sem, simprocAttr]
      try simp

theorem sm_lat {b : FB} (hs : SmF b) (l : Int) : SmF (lat b l) := ⟨hs.ones, hs.others⟩
theorem c20 (b : FB) (hs : SmF b) : Ctr Try.prog 20 [FK b] (ltR b) := by
  refine ctr_of_wp hmix Try.func20 m20 rfl ?_
  unfold v20 ltR
  have k1 := c49 b hs
  unfold errF at k1 ⊢
  cases hc : chkB b with
  | false =>
    rw [hc] at k1
    simp -failIfUnchanged (disch := first | omega | (simp <;> omega) | fail) only [go_sem, simprocAttr]
    refine wcall k1 ?_
    simp -failIfUnchanged (disch := first | omega | (simp <;> omega) | fail) only [go_sem, simprocAttr]
    try simp
  | true =>
    rw [hc] at k1
    have hv := vf_of hc
    have k2 : ∀ l : Nat, l ≤ 30 → Ctr Try.prog 66 [FK (lat b l)] (.sl 1 ((lrgL (lat b l)).map PS) .sh) := fun l hl => c66 _ (vf_lat hv (by omega))
    have k3 : ∀ l : Nat, Ctr Try.prog 34 [FK b, .int l] (FK (lat b l)) := fun l => c34 b hs l
    have k30 := k2 30 (by omega)
    have k31 := k3 30
    have e30 : ((30 : Nat) : Int) = 30 := rfl
    rw [e30] at k30 k31
    have hat : ∀ l : Int, ((lrgL (lat b l)).map PS)[0]?.getD .nul = PS (fstM (lat b l)) := fun l => fst_at
    have h0 : ∀ l : Int, 0 < (lrgL (lat b l)).length := fun l => List.length_pos_iff.2 (lrgL_ne _)
    have hP : ∀ l : Nat, ltP b l = decide ((fstM (lat b 30)).length ≤ (fstM (lat b l)).length) := fun l => by
      unfold ltP fewI
      apply decide_eq_decide.2
      show ((b.ones.length : Int) + b.others.length - _ ≤ (b.ones.length : Int) + b.others.length - _) ↔ _
      omega
    have hf : ∀ l : Int, (lrgL (lat b l))[0]?.getD default = fstM (lat b l) := fun l => rfl
    have hf30 := hf 30
    have at30 := hat 30
    have h30 := h0 30
    unfold ltN
    simp -failIfUnchanged (disch := first | omega | (simp <;> omega) | fail) only [go_sem, simprocAttr]
    refine wcall k1 ?_
    simp -failIfUnchanged (disch := first | omega | (simp <;> omega) | fail) only [go_sem, simprocAttr]
    refine wcall k31 ?_
    simp -failIfUnchanged (disch := first | omega | (simp <;> omega) | fail) only [go_sem, simprocAttr]
    refine wcall k30 ?_
    simp -failIfUnchanged (disch := first | omega | (simp <;> omega) | fail) only [go_sem, simprocAttr, at30, hf30]
    refine wp_loop' Nat (fun l => ⟨[(1, .ptr 1 0), (5, .int ((fstM (lat b 30)).length : Nat)), (6, .int l)], [(1, ⟨[.int b.base, .int b.places, .int b.persons, .int b.late, ES b.ones, ES b.others], false⟩)], [], none⟩) (fun l => l ≤ 30 ∧ ∀ i, i < l → ltP b i = false) (fun l => 30 - l) 0 (by simp) (by simp -failIfUnchanged (disch := first | omega | (simp <;> omega) | fail) only [go_sem, simprocAttr]; try simp) ?_
    rintro l ⟨hl, hpre⟩
    have k4 := k2 l hl
    have k5 := k3 l
    have at1 := hat l
    have hf1 := hf l
    have h1 := h0 l
    simp -failIfUnchanged (disch := first | omega | (simp <;> omega) | fail) only [go_sem, simprocAttr]
    refine wcall k5 ?_
    simp -failIfUnchanged (disch := first | omega | (simp <;> omega) | fail) only [go_sem, simprocAttr]
    refine wcall k4 ?_
    simp -failIfUnchanged (disch := first | omega | (simp <;> omega) | fail) only [go_sem, simprocAttr, at1, hf1]
    refine wcond_dec (fun h1 => ?_) (fun h1 => ?_)
    · have hl30 : l ≠ 30 := fun e => by subst e; rw [e30] at h1; omega
      have hPl : ltP b l = false := by rw [hP]; exact decide_eq_false (by omega)
      simp -failIfUnchanged (disch := first | omega | (simp <;> omega) | fail) only [go_sem, simprocAttr]
      refine ⟨l + 1, ⟨by omega, fun i hi => ?_⟩, by dsimp only; omega, ?_⟩
      · by_cases e : i = l
        · subst e; exact hPl
        · exact hpre i (by omega)
      · simp -failIfUnchanged (disch := first | omega | (simp <;> omega) | fail) only [go_sem, simprocAttr]
        try simp
    · have hPl : ltP b l = true := by rw [hP]; exact decide_eq_true (by omega)
      rw [fstN_eq hl hpre (.inr hPl)]
      simp -failIfUnchanged (disch := first | omega | (simp <;> omega) | fail) only [go_sem, simprocAttr]
      try simp

theorem far_f {b : FB} (h : farF b = false) : SmF b := by
  unfold farF at h
  rw [Bool.or_eq_false_iff] at h
  exact smf_of h.1

theorem c3 (b : FB) : Ctr Try.prog 3 [FK b] (.bool true) := by
  refine ctr_of_wp hmix Try.func3 m3 rfl ?_
  unfold v3
  simp -failIfUnchanged (disch := first | omega | (simp <;> omega) | fail) only [go_sem, simprocAttr]
  refine wcall (c14 b) ?_
  cases hf : farF b with
  | true =>
    simp -failIfUnchanged (disch := first | omega | (simp <;> omega) | fail) only [go_sem, simprocAttr]
    refine wcall c15 ?_
    simp -failIfUnchanged (disch := first | omega | (simp <;> omega) | fail) only [go_sem, simprocAttr]
  | false =>
    have hs := far_f hf
    have a1 := c17 b hs
    have a2 := c18 b hs
    have a3 := c19 b hs
    have a4 := c20 b hs
    unfold dayR at a2
    unfold ltR at a3 a4
    simp -failIfUnchanged (disch := first | omega | (simp <;> omega) | fail) only [go_sem, simprocAttr]
    refine wcall (c16 b hs) ?_
    simp -failIfUnchanged (disch := first | omega | (simp <;> omega) | fail) only [go_sem, simprocAttr]
    refine wcall a1 ?_
    simp -failIfUnchanged (disch := first | omega | (simp <;> omega) | fail) only [go_sem, simprocAttr]
    refine wcall a2 ?_
    simp -failIfUnchanged (disch := first | omega | (simp <;> omega) | fail) only [go_sem, simprocAttr]
    refine wcall a3 ?_
    simp -failIfUnchanged (disch := first | omega | (simp <;> omega) | fail) only [go_sem, simprocAttr]
    refine wcall a4 ?_
    simp -failIfUnchanged (disch := first | omega | (simp <;> omega) | fail) only [go_sem, simprocAttr, eq_self]
    refine wcall (c21 b hs) ?_
    simp -failIfUnchanged (disch := first | omega | (simp <;> omega) | fail) only [go_sem, simprocAttr]
    refine wcall c15 ?_
    simp -failIfUnchanged (disch := first | omega | (simp <;> omega) | fail) only [go_sem, simprocAttr]

end Go.Proofs.Ytemnojaoickjfaa


/- What a person owes, as the document has it. -/
set_option linter.unusedSimpArgs false
set_option linter.unusedVariables false
set_option linter.unnecessarySimpa false
namespace Go.Proofs.Ytemnojaoickjfaa
open Go Go.V

/-- The sums over the pairs, the entries of Ones, those of Others. -/
def dwP (b : FB) (t : List Pa) (who : Int) : Nat → Sp
  | 0 => ⟨0, 0⟩
  | k + 1 => if (one b (t[k]?.getD default).one.toNat).who = who then addS (dwP b t who k) (pcI b (one b (t[k]?.getD default).one.toNat) (oth b (t[k]?.getD default).other.toNat)) else dwP b t who k
def dw1 (b : FB) (t : List Pa) (who : Int) (s : Sp) : Nat → Sp
  | 0 => s
  | i + 1 => if (one b i).who = who ∧ inO t i = false then addS (dw1 b t who s i) (endsL b.base (one b i).cord) else dw1 b t who s i
def dw2 (b : FB) (t : List Pa) (who : Int) (s : Sp) : Nat → Sp
  | 0 => s
  | j + 1 => if (oth b j).who = who ∧ inT t j = false then addS (dw2 b t who s j) (endsL b.base (oth b j).cord) else dw2 b t who s j
def dwI (b : FB) (t : List Pa) (who : Int) : Sp := dw2 b t who (dw1 b t who (dwP b t who t.length) b.ones.length) b.others.length

theorem dwP_bd {b : FB} (hv : VF b) {t : List Pa} (hg : GM b b.ones.length t) (who : Int) : ∀ k : Nat, k ≤ t.length → SpB (dwP b t who k) k
  | 0, _ => ⟨Int.le_refl _, Int.le_refl _, by simp [dwP]⟩
  | k + 1, hk => by
    have ih := dwP_bd hv hg who k (by omega)
    obtain ⟨i, j, e, hi, hj, hc⟩ := gm_at hg (k := k) (by omega)
    unfold dwP
    rw [e]
    simp only [Int.toNat_natCast]
    split
    · exact spB_le (spB_add ih (ends_bd hv (com_v2 hv hi hj hc))) (by omega)
    · exact spB_le ih (by omega)
theorem dw1_bd {b : FB} (hv : VF b) (t : List Pa) (who : Int) {s : Sp} {n : Int} (hs : SpB s n) : ∀ k : Nat, k ≤ b.ones.length → SpB (dw1 b t who s k) (n + k)
  | 0, _ => by simpa [dw1] using hs
  | k + 1, hk => by
    have ih := dw1_bd hv t who hs k (by omega)
    unfold dw1
    split
    · exact spB_le (spB_add ih (ends_bd hv (one_v hv (by omega)).c)) (by omega)
    · exact spB_le ih (by omega)
theorem dw2_bd {b : FB} (hv : VF b) (t : List Pa) (who : Int) {s : Sp} {n : Int} (hs : SpB s n) : ∀ k : Nat, k ≤ b.others.length → SpB (dw2 b t who s k) (n + k)
  | 0, _ => by simpa [dw2] using hs
  | k + 1, hk => by
    have ih := dw2_bd hv t who hs k (by omega)
    unfold dw2
    split
    · exact spB_le (spB_add ih (ends_bd hv (oth_v hv (by omega)).c)) (by omega)
    · exact spB_le ih (by omega)
theorem c91s (a c : Sp) {n : Int} (ha : SpB a n) (hn : n ≤ 100) (hc : 0 ≤ c.lo ∧ c.lo ≤ c.hi ∧ c.hi < 10000) : Ctr Try.prog 91 [SP a, SP c] (SP (addS a c)) := by
  have k := c91 a c
  have := ha.l
  have := ha.m
  have := ha.h
  rw [w64_id (by omega), w64_id (by omega)] at k
  exact k

set_option maxRecDepth 10000 in
theorem c57 (b : FB) (hv : VF b) (t : List Pa) (hg : GM b b.ones.length t) (who : Int) : Ctr Try.prog 57 [FK b, PS t, .int who] (SP (dwI b t who)) := by
  refine ctr_of_wp hmix Try.func57 m57 rfl ?_
  unfold v57 dwI
  have htl := gm_len hg
  have hn1 := hv.n1
  have hn2 := hv.n2
  have hbp := bp_of hv
  have hpl := hv.pl
  simp -failIfUnchanged (disch := first | omega | (simp <;> omega) | fail) only [go_sem, simprocAttr]
  refine wp_loop' Nat (fun k => ⟨[(1, PS t), (2, .int who), (3, .ptr 3 0), (6, .ptr 6 0), (7, .ptr 7 0), (8, .int k)], [(7, ⟨[.int (dwP b t who k).lo, .int (dwP b t who k).hi], false⟩), (6, ⟨[.int 0, .int 0], false⟩), (3, ⟨FKc b, false⟩)], [], none⟩) (fun k => k ≤ t.length) (fun k => t.length - k) 0 (by simp) (by simp -failIfUnchanged (disch := first | omega | (simp <;> omega) | fail) only [go_sem, simprocAttr]; simp [dwP]) ?_
  intro k hk
  have hk : k ≤ t.length := hk
  simp -failIfUnchanged (disch := first | omega | (simp <;> omega) | fail) only [go_sem, simprocAttr]
  refine wcond_dec (fun h1 => ?_) (fun h1 => ?_)
  · have hkl : k < t.length := by omega
    obtain ⟨p, q, e, hp, hq, hc⟩ := gm_at hg hkl
    have hst : dwP b t who (k + 1) = if (one b p).who = who then addS (dwP b t who k) (pcI b (one b p) (oth b q)) else dwP b t who k := by
      simp only [dwP, e, Int.toNat_natCast]
    have hbd := dwP_bd hv hg who k (by omega)
    have hvc := com_v2 hv hp hq hc
    have hfb : fitB (comL (one b p).cord (oth b q).cord) = true := by
      unfold comB at hc
      simp only [Bool.and_eq_true] at hc
      exact hc.2.2
    have x2 := (oth_v hv hq).c
    have hx2 := x2.n
    have k87 := c87 b hbp (one b p) (oth b q) (one_v hv hp).c x2 (by omega) hfb
    have k91 := c91s (dwP b t who k) (pcI b (one b p) (oth b q)) hbd (by omega) (ends_bd hv hvc)
    have g1 : b.ones[p]?.getD default = one b p := rfl
    have g2 : b.others[q]?.getD default = oth b q := rfl
    generalize dwP b t who k = S at *
    simp -failIfUnchanged (disch := first | omega | (simp <;> omega) | fail) only [go_sem, simprocAttr, e, g1]
    refine wcond_dec (fun h2 => ?_) (fun h2 => ?_)
    · rw [if_pos h2] at hst
      simp -failIfUnchanged (disch := first | omega | (simp <;> omega) | fail) only [go_sem, simprocAttr, e, g2]
      refine wcall k87 ?_
      simp -failIfUnchanged (disch := first | omega | (simp <;> omega) | fail) only [go_sem, simprocAttr]
      refine wcall k91 ?_
      simp -failIfUnchanged (disch := first | omega | (simp <;> omega) | fail) only [go_sem, simprocAttr]
      refine ⟨k + 1, by dsimp only; omega, by dsimp only; omega, ?_⟩
      dsimp only
      rw [hst]
      simp -failIfUnchanged (disch := first | omega | (simp <;> omega) | fail) only [go_sem, simprocAttr]
      try simp
    · rw [if_neg h2] at hst
      simp -failIfUnchanged (disch := first | omega | (simp <;> omega) | fail) only [go_sem, simprocAttr]
      refine ⟨k + 1, by dsimp only; omega, by dsimp only; omega, ?_⟩
      dsimp only
      rw [hst]
      simp -failIfUnchanged (disch := first | omega | (simp <;> omega) | fail) only [go_sem, simprocAttr]
      try simp
  · have ek : k = t.length := by omega
    subst ek
    have hbd0 := dwP_bd hv hg who t.length (Nat.le_refl _)
    generalize dwP b t who t.length = S0 at *
    simp -failIfUnchanged (disch := first | omega | (simp <;> omega) | fail) only [go_sem, simprocAttr]
    refine wp_loop' Nat (fun i => ⟨[(1, PS t), (2, .int who), (3, .ptr 3 0), (6, .ptr 6 0), (7, .ptr 7 0), (10, .int i)], [(7, ⟨[.int (dw1 b t who S0 i).lo, .int (dw1 b t who S0 i).hi], false⟩), (6, ⟨[.int 0, .int 0], false⟩), (3, ⟨FKc b, false⟩)], [], none⟩) (fun i => i ≤ b.ones.length) (fun i => b.ones.length - i) 0 (by simp) (by simp -failIfUnchanged (disch := first | omega | (simp <;> omega) | fail) only [go_sem, simprocAttr]; simp [dw1]) ?_
    intro i hi
    have hi : i ≤ b.ones.length := hi
    simp -failIfUnchanged (disch := first | omega | (simp <;> omega) | fail) only [go_sem, simprocAttr]
    refine wcond_dec (fun h2 => ?_) (fun h2 => ?_)
    · have hil : i < b.ones.length := by omega
      have hve := one_v hv hil
      have hst : dw1 b t who S0 (i + 1) = if (one b i).who = who ∧ inO t i = false then addS (dw1 b t who S0 i) (endsL b.base (one b i).cord) else dw1 b t who S0 i := rfl
      have hbd := dw1_bd hv t who hbd0 i (by omega)
      have k44 := c44 t i (by omega)
      have k92 := c92 b hbp _ (cd_iff.2 hve.c)
      have k91 := c91s (dw1 b t who S0 i) (endsL b.base (one b i).cord) hbd (by omega) (ends_bd hv hve.c)
      have g1 : b.ones[i]?.getD default = one b i := rfl
      obtain ⟨u, hu⟩ : ∃ u, (t.any fun p => decide (p.one = (i : Int))) = u := ⟨_, rfl⟩
      have hu2 : inO t i = u := hu
      rw [hu2] at hst
      rw [hu] at k44
      generalize dw1 b t who S0 i = S at *
      obtain ⟨w, hw⟩ : ∃ w, decide ((one b i).who = who) = w := ⟨_, rfl⟩
      simp -failIfUnchanged (disch := first | omega | (simp <;> omega) | fail) only [go_sem, simprocAttr, g1, hw]
      cases w with
      | false =>
        have hw := of_decide_eq_false hw
        rw [if_neg (fun x => hw x.1)] at hst
        simp -failIfUnchanged (disch := first | omega | (simp <;> omega) | fail) only [go_sem, simprocAttr]
        refine ⟨i + 1, by dsimp only; omega, by dsimp only; omega, ?_⟩
        dsimp only
        rw [hst]
        simp -failIfUnchanged (disch := first | omega | (simp <;> omega) | fail) only [go_sem, simprocAttr]
        try simp
      | true =>
        have hw := of_decide_eq_true hw
        simp -failIfUnchanged (disch := first | omega | (simp <;> omega) | fail) only [go_sem, simprocAttr]
        refine wcall k44 ?_
        cases u with
        | true =>
          rw [if_neg (fun x => by cases x.2)] at hst
          simp -failIfUnchanged (disch := first | omega | (simp <;> omega) | fail) only [go_sem, simprocAttr]
          refine ⟨i + 1, by dsimp only; omega, by dsimp only; omega, ?_⟩
          dsimp only
          rw [hst]
          simp -failIfUnchanged (disch := first | omega | (simp <;> omega) | fail) only [go_sem, simprocAttr]
          try simp
        | false =>
          rw [if_pos ⟨hw, rfl⟩] at hst
          simp -failIfUnchanged (disch := first | omega | (simp <;> omega) | fail) only [go_sem, simprocAttr, g1]
          refine wcall k92 ?_
          simp -failIfUnchanged (disch := first | omega | (simp <;> omega) | fail) only [go_sem, simprocAttr]
          refine wcall k91 ?_
          simp -failIfUnchanged (disch := first | omega | (simp <;> omega) | fail) only [go_sem, simprocAttr]
          refine ⟨i + 1, by dsimp only; omega, by dsimp only; omega, ?_⟩
          dsimp only
          rw [hst]
          simp -failIfUnchanged (disch := first | omega | (simp <;> omega) | fail) only [go_sem, simprocAttr]
          try simp
    · have ei : i = b.ones.length := by omega
      subst ei
      have hbd1 := dw1_bd hv t who hbd0 b.ones.length (Nat.le_refl _)
      generalize dw1 b t who S0 b.ones.length = S1 at *
      simp -failIfUnchanged (disch := first | omega | (simp <;> omega) | fail) only [go_sem, simprocAttr]
      refine wp_loop' Nat (fun i => ⟨[(1, PS t), (2, .int who), (3, .ptr 3 0), (6, .ptr 6 0), (7, .ptr 7 0), (11, .int i)], [(7, ⟨[.int (dw2 b t who S1 i).lo, .int (dw2 b t who S1 i).hi], false⟩), (6, ⟨[.int 0, .int 0], false⟩), (3, ⟨FKc b, false⟩)], [], none⟩) (fun i => i ≤ b.others.length) (fun i => b.others.length - i) 0 (by simp) (by simp -failIfUnchanged (disch := first | omega | (simp <;> omega) | fail) only [go_sem, simprocAttr]; simp [dw2]) ?_
      intro i hi
      have hi : i ≤ b.others.length := hi
      simp -failIfUnchanged (disch := first | omega | (simp <;> omega) | fail) only [go_sem, simprocAttr]
      refine wcond_dec (fun h2 => ?_) (fun h2 => ?_)
      · have hil : i < b.others.length := by omega
        have hve := oth_v hv hil
        have hst : dw2 b t who S1 (i + 1) = if (oth b i).who = who ∧ inT t i = false then addS (dw2 b t who S1 i) (endsL b.base (oth b i).cord) else dw2 b t who S1 i := rfl
        have hbd := dw2_bd hv t who hbd1 i (by omega)
        have k45 := c45 t i (by omega)
        have k92 := c92 b hbp _ (cd_iff.2 hve.c)
        have k91 := c91s (dw2 b t who S1 i) (endsL b.base (oth b i).cord) hbd (by omega) (ends_bd hv hve.c)
        have g1 : b.others[i]?.getD default = oth b i := rfl
        obtain ⟨u, hu⟩ : ∃ u, (t.any fun p => decide (p.other = (i : Int))) = u := ⟨_, rfl⟩
        have hu2 : inT t i = u := hu
        rw [hu2] at hst
        rw [hu] at k45
        generalize dw2 b t who S1 i = S at *
        obtain ⟨w, hw⟩ : ∃ w, decide ((oth b i).who = who) = w := ⟨_, rfl⟩
        simp -failIfUnchanged (disch := first | omega | (simp <;> omega) | fail) only [go_sem, simprocAttr, g1, hw]
        cases w with
        | false =>
          have hw := of_decide_eq_false hw
          rw [if_neg (fun x => hw x.1)] at hst
          simp -failIfUnchanged (disch := first | omega | (simp <;> omega) | fail) only [go_sem, simprocAttr]
          refine ⟨i + 1, by dsimp only; omega, by dsimp only; omega, ?_⟩
          dsimp only
          rw [hst]
          simp -failIfUnchanged (disch := first | omega | (simp <;> omega) | fail) only [go_sem, simprocAttr]
          try simp
        | true =>
          have hw := of_decide_eq_true hw
          simp -failIfUnchanged (disch := first | omega | (simp <;> omega) | fail) only [go_sem, simprocAttr]
          refine wcall k45 ?_
          cases u with
          | true =>
            rw [if_neg (fun x => by cases x.2)] at hst
            simp -failIfUnchanged (disch := first | omega | (simp <;> omega) | fail) only [go_sem, simprocAttr]
            refine ⟨i + 1, by dsimp only; omega, by dsimp only; omega, ?_⟩
            dsimp only
            rw [hst]
            simp -failIfUnchanged (disch := first | omega | (simp <;> omega) | fail) only [go_sem, simprocAttr]
            try simp
          | false =>
            rw [if_pos ⟨hw, rfl⟩] at hst
            simp -failIfUnchanged (disch := first | omega | (simp <;> omega) | fail) only [go_sem, simprocAttr, g1]
            refine wcall k92 ?_
            simp -failIfUnchanged (disch := first | omega | (simp <;> omega) | fail) only [go_sem, simprocAttr]
            refine wcall k91 ?_
            simp -failIfUnchanged (disch := first | omega | (simp <;> omega) | fail) only [go_sem, simprocAttr]
            refine ⟨i + 1, by dsimp only; omega, by dsimp only; omega, ?_⟩
            dsimp only
            rw [hst]
            simp -failIfUnchanged (disch := first | omega | (simp <;> omega) | fail) only [go_sem, simprocAttr]
            try simp
      · have ei : i = b.others.length := by omega
        subst ei
        simp -failIfUnchanged (disch := first | omega | (simp <;> omega) | fail) only [go_sem, simprocAttr]
        try simp

end Go.Proofs.Ytemnojaoickjfaa


/- What a person owes by a matching: both sides' sums are the same. -/
set_option linter.unusedSimpArgs false
set_option linter.unusedVariables false
set_option linter.unnecessarySimpa false
namespace Go.Proofs.Ytemnojaoickjfaa
open Go Go.V

def zS : Sp := ⟨0, 0⟩
theorem sp_ext {a c : Sp} (h1 : a.lo = c.lo) (h2 : a.hi = c.hi) : a = c := by
  cases a; cases c; simp at h1 h2; rw [h1, h2]
theorem addS_comm (a c : Sp) : addS a c = addS c a := sp_ext (Int.add_comm _ _) (Int.add_comm _ _)
theorem addS_assoc (a c d : Sp) : addS (addS a c) d = addS a (addS c d) := sp_ext (Int.add_assoc _ _ _) (Int.add_assoc _ _ _)
theorem addS_z (a : Sp) : addS a zS = a := sp_ext (Int.add_zero _) (Int.add_zero _)
theorem z_addS (a : Sp) : addS zS a = a := sp_ext (Int.zero_add _) (Int.zero_add _)
theorem addS_4 (a c d e : Sp) : addS (addS a c) (addS d e) = addS (addS a d) (addS c e) := sp_ext (by unfold addS; dsimp only; omega) (by unfold addS; dsimp only; omega)
def sS (f : Nat → Sp) : Nat → Sp
  | 0 => zS
  | n + 1 => addS (sS f n) (f n)
def lS (F : Pa → Sp) : List Pa → Sp
  | [] => zS
  | p :: r => addS (F p) (lS F r)
theorem sS_add (f g : Nat → Sp) : ∀ n, sS (fun j => addS (f j) (g j)) n = addS (sS f n) (sS g n)
  | 0 => (addS_z zS).symm
  | n + 1 => by
    unfold sS
    rw [sS_add f g n, addS_4]
theorem sS_congr {f g : Nat → Sp} : ∀ {n : Nat}, (∀ j, j < n → f j = g j) → sS f n = sS g n
  | 0, _ => rfl
  | n + 1, h => by
    unfold sS
    rw [sS_congr (fun j hj => h j (by omega)), h n (by omega)]
theorem sS_z : ∀ n, sS (fun _ => zS) n = zS
  | 0 => rfl
  | n + 1 => by unfold sS; rw [sS_z n, addS_z]
theorem sS_one (c : Nat) (x : Sp) : ∀ n, sS (fun j => if c = j then x else zS) n = if c < n then x else zS
  | 0 => rfl
  | n + 1 => by
    unfold sS
    rw [sS_one c x n]
    by_cases h : c < n
    · rw [if_pos h, if_neg (by omega), if_pos (by omega), addS_z]
    · rw [if_neg h]
      by_cases e : c = n
      · rw [if_pos e, if_pos (by omega), z_addS]
      · rw [if_neg e, if_neg (by omega), addS_z]
theorem lS_app (F : Pa → Sp) : ∀ (l r : List Pa), lS F (l ++ r) = addS (lS F l) (lS F r)
  | [], r => (z_addS _).symm
  | p :: l, r => by
    show addS (F p) (lS F (l ++ r)) = _
    rw [lS_app F l r, ← addS_assoc]
    rfl
theorem lS_perm (F : Pa → Sp) {l r : List Pa} (h : l.Perm r) : lS F l = lS F r := by
  induction h with
  | nil => rfl
  | cons x _ ih => unfold lS; rw [ih]
  | swap x y l =>
    show addS (F y) (addS (F x) (lS F l)) = addS (F x) (addS (F y) (lS F l))
    rw [← addS_assoc, ← addS_assoc, addS_comm (F y)]
  | trans _ _ h1 h2 => rw [h1, h2]
theorem lS_congr {F G : Pa → Sp} : ∀ {l : List Pa}, (∀ p ∈ l, F p = G p) → lS F l = lS G l
  | [], _ => rfl
  | p :: l, h => by
    unfold lS
    rw [h p (by simp), lS_congr fun q hq => h q (by simp [hq])]

/-- What the pair of an entry adds. -/
def hitS (F : Pa → Sp) : List Pa → Nat → Sp
  | [], _ => zS
  | p :: r, j => if p.other = (j : Int) then F p else hitS F r j
theorem hitS_no (F : Pa → Sp) : ∀ {l : List Pa} {j : Nat}, (∀ p ∈ l, p.other ≠ (j : Int)) → hitS F l j = zS
  | [], _, _ => rfl
  | p :: r, j, h => by
    unfold hitS
    rw [if_neg (h p (by simp)), hitS_no F fun q hq => h q (by simp [hq])]
theorem hitS_at (F : Pa → Sp) : ∀ {l : List Pa} {j : Nat} {p : Pa}, (l.Pairwise fun p q => p.other ≠ q.other) → p ∈ l → p.other = (j : Int) → hitS F l j = F p
  | [], _, _, _, h, _ => by simp at h
  | q :: r, j, p, hd, hp, hj => by
    unfold hitS
    rcases List.mem_cons.1 hp with rfl | hp
    · rw [if_pos hj]
    · have := (List.pairwise_cons.1 hd).1 p hp
      rw [if_neg (fun e => this (by rw [e, hj])), hitS_at F (List.pairwise_cons.1 hd).2 hp hj]
theorem sS_hit (F : Pa → Sp) (n : Nat) : ∀ {l : List Pa}, (l.Pairwise fun p q => p.other ≠ q.other) → (∀ p ∈ l, 0 ≤ p.other ∧ p.other < (n : Int)) → sS (hitS F l) n = lS F l
  | [], _, _ => sS_z n
  | p :: r, hd, hb => by
    have ih := sS_hit F n (List.pairwise_cons.1 hd).2 fun q hq => hb q (by simp [hq])
    have hp := hb p (by simp)
    have e : sS (hitS F (p :: r)) n = sS (fun j => addS (if p.other.toNat = j then F p else zS) (hitS F r j)) n := by
      refine sS_congr fun j hj => ?_
      show (if p.other = (j : Int) then F p else hitS F r j) = _
      by_cases e : p.other = (j : Int)
      · rw [if_pos e, if_pos (by omega), hitS_no F fun q hq => by
          have := (List.pairwise_cons.1 hd).1 q hq
          intro e2
          exact this (by rw [e, e2]), addS_z]
      · rw [if_neg e, if_neg (by omega), z_addS]
    rw [e, sS_add, sS_one, if_pos (by omega), ih]
    rfl

/-! The sums. -/
def prF (b : FB) (who : Int) (p : Pa) : Sp := if (one b p.one.toNat).who = who then pcI b (one b p.one.toNat) (oth b p.other.toNat) else zS
def onF (b : FB) (t : List Pa) (who : Int) (i : Nat) : Sp := if (one b i).who = who ∧ inO t i = false then endsL b.base (one b i).cord else zS
def otF (b : FB) (t : List Pa) (who : Int) (j : Nat) : Sp := if (oth b j).who = who ∧ inT t j = false then endsL b.base (oth b j).cord else zS
def owC (b : FB) (t : List Pa) (who : Int) : Sp := addS (lS (prF b who) t) (addS (sS (onF b t who) b.ones.length) (sS (otF b t who) b.others.length))

theorem dwP_eq (b : FB) (t : List Pa) (who : Int) : ∀ k, k ≤ t.length → dwP b t who k = lS (prF b who) (t.take k)
  | 0, _ => by simp [dwP, lS, zS]
  | k + 1, h => by
    have ih := dwP_eq b t who k (by omega)
    obtain ⟨p, hp⟩ : ∃ p, t[k]?.getD default = p := ⟨_, rfl⟩
    have hts : t.take (k + 1) = t.take k ++ [p] := by
      have e2 : t[k] = p := by rw [← hp, List.getElem?_eq_getElem (by omega)]; rfl
      rw [List.take_add_one, List.getElem?_eq_getElem (by omega), e2]; rfl
    unfold dwP
    rw [hp, hts, lS_app, ← ih]
    unfold lS lS prF
    by_cases h1 : (one b p.one.toNat).who = who
    · rw [if_pos h1, if_pos h1, addS_z]
    · rw [if_neg h1, if_neg h1, addS_z, addS_z]
theorem dw1_eq (b : FB) (t : List Pa) (who : Int) (s : Sp) : ∀ k, dw1 b t who s k = addS s (sS (onF b t who) k)
  | 0 => (addS_z s).symm
  | k + 1 => by
    unfold dw1 sS
    rw [dw1_eq b t who s k]
    unfold onF
    split
    · rw [addS_assoc]
    · rw [addS_z]
theorem dw2_eq (b : FB) (t : List Pa) (who : Int) (s : Sp) : ∀ k, dw2 b t who s k = addS s (sS (otF b t who) k)
  | 0 => (addS_z s).symm
  | k + 1 => by
    unfold dw2 sS
    rw [dw2_eq b t who s k]
    unfold otF
    split
    · rw [addS_assoc]
    · rw [addS_z]
theorem dw_eq (b : FB) (t : List Pa) (who : Int) : dwI b t who = owC b t who := by
  unfold dwI owC
  rw [dw2_eq, dw1_eq, dwP_eq b t who _ (Nat.le_refl _), List.take_length, addS_assoc]
theorem ow1_eq (b : FB) (t : List Pa) (who : Int) : ∀ k, ow1K b t who k = sS (onF b t who) k
  | 0 => rfl
  | k + 1 => by
    unfold ow1K sS
    rw [ow1_eq b t who k]
    unfold onF
    by_cases h : (one b k).who = who ∧ inO t k = false
    · rw [if_pos ⟨h.2, h.1⟩, if_pos h]
    · rw [if_neg (fun x => h ⟨x.2, x.1⟩), if_neg h, addS_z]
theorem any_inT {t : List Pa} {j : Nat} : inT t j = false ↔ ∀ p ∈ t, p.other ≠ (j : Int) := by
  unfold inT
  rw [List.any_eq_false]
  simp
theorem idx_neg {α : Type} {p : α → Bool} {l : List α} : idxF p l < 0 ↔ l.any p = false := by
  unfold idxF
  cases h : l.any p with
  | true => simp
  | false => simp
theorem oth_eq {b : FB} {t : List Pa} (hg : GM b b.ones.length t) (who : Int) {j : Nat} (hj : j < b.others.length) : (if (oth b j).who = who then othS b t j else zS) = addS (hitS (prF b who) t j) (otF b t who j) := by
  unfold othS otF
  by_cases hn : idxF (fun p : Pa => decide (p.other = (j : Int))) t < 0
  · rw [if_pos hn]
    have h1 := idx_neg.1 hn
    have h2 : inT t j = false := h1
    rw [hitS_no _ (any_inT.1 h2), z_addS]
    by_cases h : (oth b j).who = who
    · rw [if_pos h, if_pos ⟨h, h2⟩]
    · rw [if_neg h, if_neg (fun x => h x.1)]
  · rw [if_neg hn]
    obtain ⟨k, e1, hk, hkp⟩ := idx_at hn
    obtain ⟨p, q, e, hp, hq, hc⟩ := gm_at hg hk
    rw [e1, Int.toNat_natCast, e]
    rw [e] at hkp
    have hkp := of_decide_eq_true hkp
    dsimp only at hkp
    have : q = j := by omega
    subst this
    have h2 : inT t q = true := by
      cases h : inT t q with
      | true => rfl
      | false => exact absurd (idx_neg.2 h) hn
    have hmem : (⟨(p : Int), (q : Int)⟩ : Pa) ∈ t := by rw [← e]; exact mem_getD hk
    have hnn : ¬ ((oth b q).who = who ∧ true = false) := by simp
    rw [hitS_at (prF b who) hg.d hmem rfl, h2, if_neg hnn, addS_z]
    unfold prF
    dsimp only
    simp only [Int.toNat_natCast]
    have hw : (one b p).who = (oth b q).who := by
      unfold comB at hc
      simp only [Bool.and_eq_true, decide_eq_true_eq] at hc
      exact hc.1
    rw [hw]
theorem ow2_eq {b : FB} {t : List Pa} (hg : GM b b.ones.length t) (who : Int) (s : Sp) : ∀ k, k ≤ b.others.length → ow2K b t who s k = addS s (sS (fun j => addS (hitS (prF b who) t j) (otF b t who j)) k)
  | 0, _ => (addS_z s).symm
  | k + 1, h => by
    unfold ow2K sS
    rw [ow2_eq hg who s k (by omega), ← oth_eq hg who (by omega)]
    split
    · rw [addS_assoc]
    · rw [addS_z]
/-- What the program adds. -/
theorem ow_eq {b : FB} {t : List Pa} (hg : GM b b.ones.length t) (who : Int) : owdI b t who = owC b t who := by
  unfold owdI owC
  rw [ow2_eq hg who _ _ (Nat.le_refl _), sS_add, ow1_eq, sS_hit _ _ hg.d (fun p hp => (hg.p p hp).2.1), ← addS_assoc, addS_comm (sS (onF b t who) _), addS_assoc]

end Go.Proofs.Ytemnojaoickjfaa


/- FinesOwed. -/
set_option linter.unusedSimpArgs false
set_option linter.unusedVariables false
set_option linter.unnecessarySimpa false
namespace Go.Proofs.Ytemnojaoickjfaa
open Go Go.V

theorem c57o (b : FB) (hv : VF b) (t : List Pa) (hg : GM b b.ones.length t) (who : Int) : Ctr Try.prog 57 [FK b, PS t, .int who] (SP (owdI b t who)) := by
  have := c57 b hv t hg who
  rw [dw_eq, ← ow_eq hg] at this
  exact this

theorem c30 (b : FB) (hs : SmF b) (who : Int) : Ctr Try.prog 30 [FK b, .int who] (owdR b who) := by
  refine ctr_of_wp hmix Try.func30 m30 rfl ?_
  unfold v30 owdR
  have a1 := c75 b who
  have a2 := c74 b hs (within who 0 (w64 (b.persons - 1)))
  obtain ⟨e, hE⟩ : ∃ e, owE b who = e := ⟨_, rfl⟩
  have hE' : askF b (within who 0 (w64 (b.persons - 1))) = e := hE
  rw [hE'] at a2
  rw [hE]
  simp -failIfUnchanged (disch := first | omega | (simp <;> omega) | fail) only [go_sem, simprocAttr]
  refine wcall a1 ?_
  simp -failIfUnchanged (disch := first | omega | (simp <;> omega) | fail) only [go_sem, simprocAttr]
  refine wcall a2 ?_
  by_cases h0 : e = 0
  · subst h0
    obtain ⟨hc, _⟩ := pr_0 hE'
    have hv := vf_of hc
    have k2 := c66 b hv
    have hne := lrgL_ne b
    have hgm : ∀ x ∈ lrgL b, GM b b.ones.length x := fun x hx => (mem_lrg.1 hx).1
    have h0 : 0 < (lrgL b).length := List.length_pos_iff.2 hne
    have hsm := lrg_small hv
    generalize lrgL b = M at k2 hgm h0 hsm ⊢
    have c57a : ∀ i, i < M.length → Ctr Try.prog 57 [FK b, PS (M[i]?.getD default), .int who] (SP (owdI b (M[i]?.getD default) who)) := fun i hi => c57o b hv _ (hgm _ (mem_getD hi)) who
    have hat : ∀ i, i < M.length → (M.map PS)[i]?.getD .nul = PS (M[i]?.getD default) := fun i hi => by simp [hi]
    have c0 := c57a 0 h0
    have e0 := hat 0 h0
    simp -failIfUnchanged (disch := first | omega | (simp <;> omega) | fail) only [go_sem, simprocAttr]
    refine wcall k2 ?_
    simp -failIfUnchanged (disch := first | omega | (simp <;> omega) | fail) only [go_sem, simprocAttr, e0]
    refine wcall c0 ?_
    simp -failIfUnchanged (disch := first | omega | (simp <;> omega) | fail) only [go_sem, simprocAttr]
    refine wp_loop' Nat (fun i => ⟨[(1, .int who), (2, .ptr 2 0), (4, .ptr 4 0), (7, .sl 1 (M.map PS) .sh), (8, .ptr 8 0), (9, .int i)],
        [(8, ⟨[.int (rgK b who M i).lo, .int (rgK b who M i).hi], false⟩), (4, ⟨[.int 0, .int 0], false⟩), (2, ⟨FKc b, false⟩)], [], none⟩) (fun i => i ≤ M.length) (fun i => M.length - i) 0 (by simp) (by simp -failIfUnchanged (disch := first | omega | (simp <;> omega) | fail) only [go_sem, simprocAttr]; simp [rgK]) ?_
    intro i hi
    have hi : i ≤ M.length := hi
    simp -failIfUnchanged (disch := first | omega | (simp <;> omega) | fail) only [go_sem, simprocAttr]
    refine wcond_dec (fun h1 => ?_) (fun h1 => ?_)
    · have hil : i < M.length := by omega
      have c1 := c57a i hil
      have e1 := hat i hil
      have hst : rgK b who M (i + 1) = ⟨min (rgK b who M i).lo (owdI b (M[i]?.getD default) who).lo, max (rgK b who M i).hi (owdI b (M[i]?.getD default) who).hi⟩ := rfl
      simp -failIfUnchanged (disch := first | omega | (simp <;> omega) | fail) only [go_sem, simprocAttr, e1]
      refine wcall c1 ?_
      simp -failIfUnchanged (disch := first | omega | (simp <;> omega) | fail) only [go_sem, simprocAttr]
      refine ⟨i + 1, by dsimp only; omega, by dsimp only; omega, ?_⟩
      dsimp only
      rw [hst]
      simp -failIfUnchanged (disch := first | omega | (simp <;> omega) | fail) only [go_sem, simprocAttr]
      try simp
    · have e : i = M.length := by omega
      subst e
      simp -failIfUnchanged (disch := first | omega | (simp <;> omega) | fail) only [go_sem, simprocAttr]
      try simp
  · have hd : decide (¬ e = 0) = true := decide_eq_true h0
    simp -failIfUnchanged (disch := first | omega | (simp <;> omega) | fail) only [go_sem, simprocAttr, hd]
    simp [h0]

theorem c6 (b : FB) (who : Int) : Ctr Try.prog 6 [FK b, .int who] (.bool true) := by
  refine ctr_of_wp hmix Try.func6 m6 rfl ?_
  unfold v6
  simp -failIfUnchanged (disch := first | omega | (simp <;> omega) | fail) only [go_sem, simprocAttr]
  refine wcall (c14 b) ?_
  cases hf : farF b with
  | true =>
    simp -failIfUnchanged (disch := first | omega | (simp <;> omega) | fail) only [go_sem, simprocAttr]
    refine wcall c15 ?_
    simp -failIfUnchanged (disch := first | omega | (simp <;> omega) | fail) only [go_sem, simprocAttr]
  | false =>
    have hs := far_f hf
    have a1 := c28 b hs
    have a2 := c29 b hs
    have a3 := c25 b hs who
    have a4 := c30 b hs who
    have a5 := c31 b hs
    unfold fewR at a1 a2
    unfold owdR at a3 a4
    unfold matR at a5
    cases hc : chkB b with
    | false =>
      have he : errF b = 130 := by unfold errF; rw [hc]; rfl
      have hno : decide (¬ (130 : Int) = 0) = true := by decide
      rw [hc, he] at a1 a2 a5
      simp -failIfUnchanged (disch := first | omega | (simp <;> omega) | fail) only [go_sem, simprocAttr]
      refine wcall (c16 b hs) ?_
      simp -failIfUnchanged (disch := first | omega | (simp <;> omega) | fail) only [go_sem, simprocAttr]
      refine wcall a1 ?_
      simp -failIfUnchanged (disch := first | omega | (simp <;> omega) | fail) only [go_sem, simprocAttr]
      refine wcall a2 ?_
      simp -failIfUnchanged (disch := first | omega | (simp <;> omega) | fail) only [go_sem, simprocAttr]
      refine wcall a3 ?_
      simp -failIfUnchanged (disch := first | omega | (simp <;> omega) | fail) only [go_sem, simprocAttr]
      refine wcall a4 ?_
      simp -failIfUnchanged (disch := first | omega | (simp <;> omega) | fail) only [go_sem, simprocAttr]
      refine wcall a5 ?_
      simp -failIfUnchanged (disch := first | omega | (simp <;> omega) | fail) only [go_sem, simprocAttr, eq_self]
      refine wcall (c21 b hs) ?_
      simp -failIfUnchanged (disch := first | omega | (simp <;> omega) | fail) only [go_sem, simprocAttr, hno]
      refine wcall c15 ?_
      simp -failIfUnchanged (disch := first | omega | (simp <;> omega) | fail) only [go_sem, simprocAttr]
    | true =>
      have he : errF b = 0 := by unfold errF; rw [hc]; rfl
      have hno : decide (¬ (0 : Int) = 0) = false := by decide
      have hv := vf_of hc
      have hn1 := hv.n1
      have hn2 := hv.n2
      have hg : GM b b.ones.length (fstM b) := (mem_lrg.1 (fst_most b).1).1
      have hfl := fst_len hv
      have a6 := c32 b hv (fstM b) (by omega)
      rw [(mat_gm hv).2 hg] at a6
      have hfe : fewI b = (b.ones.length : Int) + b.others.length - (fstM b).length := rfl
      rw [hc, he] at a1 a2 a5
      simp only [if_true] at a1 a2 a5
      generalize fstM b = F at *
      generalize fewI b = W at *
      subst hfe
      simp -failIfUnchanged (disch := first | omega | (simp <;> omega) | fail) only [go_sem, simprocAttr]
      refine wcall (c16 b hs) ?_
      simp -failIfUnchanged (disch := first | omega | (simp <;> omega) | fail) only [go_sem, simprocAttr]
      refine wcall a1 ?_
      simp -failIfUnchanged (disch := first | omega | (simp <;> omega) | fail) only [go_sem, simprocAttr]
      refine wcall a2 ?_
      simp -failIfUnchanged (disch := first | omega | (simp <;> omega) | fail) only [go_sem, simprocAttr]
      refine wcall a3 ?_
      simp -failIfUnchanged (disch := first | omega | (simp <;> omega) | fail) only [go_sem, simprocAttr]
      refine wcall a4 ?_
      simp -failIfUnchanged (disch := first | omega | (simp <;> omega) | fail) only [go_sem, simprocAttr]
      refine wcall a5 ?_
      simp -failIfUnchanged (disch := first | omega | (simp <;> omega) | fail) only [go_sem, simprocAttr, eq_self]
      refine wcall (c21 b hs) ?_
      simp -failIfUnchanged (disch := first | omega | (simp <;> omega) | fail) only [go_sem, simprocAttr, hno]
      refine wcall a6 ?_
      have e9 : decide ((F.length : Int) = (b.ones.length : Int) + b.others.length - ((b.ones.length : Int) + b.others.length - F.length)) = true := decide_eq_true (by omega)
      simp -failIfUnchanged (disch := first | omega | (simp <;> omega) | fail) only [go_sem, simprocAttr, e9]
      refine wcall c15 ?_
      simp -failIfUnchanged (disch := first | omega | (simp <;> omega) | fail) only [go_sem, simprocAttr]

end Go.Proofs.Ytemnojaoickjfaa


/- Maps with pairs as keys; Must. -/
set_option linter.unusedSimpArgs false
set_option linter.unusedVariables false
set_option linter.unnecessarySimpa false
namespace Go.Proofs.Ytemnojaoickjfaa
open Go Go.V Go.WideShapes

theorem bid_nilp : AV.bid .nilp = [] := rfl
theorem strip_nilp {hp : HpL} : strip hp .nilp = .nilp := rfl
theorem isUnd_nilp : AV.isUnd .nilp = false := rfl
theorem bid_mpr {l : Nat} : AV.bid (.mpr l) = [] := rfl
theorem strip_mpr {hp : HpL} {l : Nat} : strip hp (.mpr l) = .mpr l := rfl
theorem isUnd_mpr {l : Nat} : AV.isUnd (.mpr l) = false := rfl
theorem inS_mpr {τ : AS} {l : Nat} : inScope τ (.mpr l) = True := rfl
attribute [go_sem] inS_mpr bid_nilp strip_nilp isUnd_nilp bid_mpr strip_mpr isUnd_mpr

end Go.Proofs.Ytemnojaoickjfaa


/- The document's Must and Alone; Twice; FinesMust. -/
set_option linter.unusedSimpArgs false
set_option linter.unusedVariables false
set_option linter.unnecessarySimpa false
namespace Go.Proofs.Ytemnojaoickjfaa
open Go Go.V

end Go.Proofs.Ytemnojaoickjfaa


/- Twice; FinesMust. -/
set_option linter.unusedSimpArgs false
set_option linter.unusedVariables false
set_option linter.unnecessarySimpa false
namespace Go.Proofs.Ytemnojaoickjfaa
open Go Go.V

/-- The pairs of a book's entries that could be one: row by row. -/
def twP (late : Int) (l : List En) (i k : Nat) : Bool := decide (i < k) && comB late (l[i]?.getD default) (l[k]?.getD default)
def twR (late : Int) (l : List En) (i m : Nat) : List Pa := ((List.range m).filter (twP late l i)).map fun k : Nat => (⟨(i : Int), (k : Int)⟩ : Pa)
def twK (late : Int) (l : List En) : Nat → List Pa
  | 0 => []
  | i + 1 => twK late l i ++ twR late l i l.length
def twcR (b : FB) (n : Int) : AV := .tup [PS (if bkE b n = 0 then twK b.late (bokL b n) (bokL b n).length else []), .int (bkE b n)]
theorem twR_succ (late : Int) (l : List En) (i m : Nat) : twR late l i (m + 1) = twR late l i m ++ (if twP late l i m then [⟨(i : Int), (m : Int)⟩] else []) := by
  unfold twR
  rw [List.range_succ, List.filter_append, List.map_append]
  congr 1
  by_cases h : twP late l i m <;> simp [h]
theorem twR_0 (late : Int) (l : List En) (i : Nat) : twR late l i (i + 1) = [] := by
  unfold twR
  have : (List.range (i + 1)).filter (twP late l i) = [] := by
    rw [List.filter_eq_nil_iff]
    intro k hk
    have := List.mem_range.1 hk
    have : decide (i < k) = false := decide_eq_false (by omega)
    simp [twP, this]
  rw [this]
  rfl
theorem twR_len (late : Int) (l : List En) (i m : Nat) : (twR late l i m).length ≤ m := by
  unfold twR
  rw [List.length_map]
  exact Nat.le_trans (List.length_filter_le _ _) (by simp)
theorem twK_len (late : Int) (l : List En) : ∀ i, (twK late l i).length ≤ i * l.length
  | 0 => by simp [twK]
  | i + 1 => by
    unfold twK
    rw [List.length_append, Nat.succ_mul]
    have := twK_len late l i
    have := twR_len late l i l.length
    omega
theorem bok_v {b : FB} (hv : VF b) {n : Int} {i : Nat} (h : i < (bokL b n).length) : VE b ((bokL b n)[i]?.getD default) := by
  have := mem_getD h
  unfold bokL at this ⊢
  by_cases e : n = 0
  · rw [if_pos e] at this ⊢; exact hv.e1 _ this
  · rw [if_neg e] at this ⊢; exact hv.e2 _ this
theorem bok_5 {b : FB} (hv : VF b) (n : Int) : (bokL b n).length ≤ 5 := by
  have := hv.n1
  have := hv.n2
  unfold bokL
  split <;> omega

set_option maxRecDepth 10000 in
theorem c60 (b : FB) (hs : SmF b) (n : Int) : Ctr Try.prog 60 [FK b, .int n] (twcR b n) := by
  refine ctr_of_wp hmix Try.func60 m60 rfl ?_
  unfold v60 twcR
  have a1 := c71 n 0 1
  have a2 := c70 b hs (within n 0 1)
  obtain ⟨e, hE⟩ : ∃ e, bkE b n = e := ⟨_, rfl⟩
  have hE' : askF b (within n 0 1) = e := hE
  rw [hE'] at a2
  rw [hE]
  simp -failIfUnchanged (disch := first | omega | (simp <;> omega) | fail) only [go_sem, simprocAttr]
  refine wcall a1 ?_
  simp -failIfUnchanged (disch := first | omega | (simp <;> omega) | fail) only [go_sem, simprocAttr]
  refine wcall a2 ?_
  by_cases h0 : e = 0
  · subst h0
    obtain ⟨hc, hw⟩ := pr_0 hE'
    have hv := vf_of hc
    have k3 := c73 b n
    have hl5 := bok_5 hv n
    have hve : ∀ i, i < (bokL b n).length → VE b ((bokL b n)[i]?.getD default) := fun i hi => bok_v hv hi
    generalize bokL b n = l at k3 hl5 hve ⊢
    have hpl := hv.pl
    simp -failIfUnchanged (disch := first | omega | (simp <;> omega) | fail) only [go_sem, simprocAttr]
    refine wcall k3 ?_
    simp -failIfUnchanged (disch := first | omega | (simp <;> omega) | fail) only [go_sem, simprocAttr]
    refine wp_loop' Nat (fun i => ⟨[(2, .ptr 2 0), (7, ES l), (9, .sl 2 ((twK b.late l i).map PA) (.own 9)), (28, ES l), (29, .int l.length), (30, .int i)], [(2, ⟨FKc b, false⟩)], [(9, (twK b.late l i).length)], none⟩) (fun i => i ≤ l.length) (fun i => l.length - i) 0 (by simp) (by simp -failIfUnchanged (disch := first | omega | (simp <;> omega) | fail) only [go_sem, simprocAttr]; simp [twK]) ?_
    intro i hi
    have hi : i ≤ l.length := hi
    have hkl := twK_len b.late l i
    have hkl2 : i * l.length ≤ 25 := by have := Nat.mul_le_mul (show i ≤ 5 by omega) hl5; omega
    simp -failIfUnchanged (disch := first | omega | (simp <;> omega) | fail) only [go_sem, simprocAttr]
    refine wcond_dec (fun h1 => ?_) (fun h1 => ?_)
    · have hil : i < l.length := by omega
      obtain ⟨x, hx⟩ : ∃ x, l[i]?.getD default = x := ⟨_, rfl⟩
      have hvx := hve i hil
      rw [hx] at hvx
      have hks : twK b.late l (i + 1) = twK b.late l i ++ twR b.late l i l.length := rfl
      simp -failIfUnchanged (disch := first | omega | (simp <;> omega) | fail) only [go_sem, simprocAttr, hx]
      refine wp_loop' Nat (fun k => ⟨[(2, .ptr 2 0), (7, ES l), (9, .sl 2 ((twK b.late l i ++ twR b.late l i k).map PA) (.own 9)), (10, .int i), (11, .ptr 11 0), (12, .int k), (28, ES l), (29, .int l.length), (30, .int i)],
        [(11, ⟨[.int x.day, .int x.who, SS x.cord], false⟩), (2, ⟨FKc b, false⟩)], [(9, (twK b.late l i ++ twR b.late l i k).length)], none⟩) (fun k => i < k ∧ k ≤ l.length) (fun k => l.length - k) (i + 1) ⟨by omega, by omega⟩ (by rw [twR_0]; simp -failIfUnchanged (disch := first | omega | (simp <;> omega) | fail) only [go_sem, simprocAttr]; simp) ?_
      rintro k ⟨hik, hk⟩
      have hrl := twR_len b.late l i k
      have hal : (twK b.late l i ++ twR b.late l i k).length ≤ 100 := by rw [List.length_append]; omega
      have hrs3 : twK b.late l i ++ twR b.late l i (k + 1) = (twK b.late l i ++ twR b.late l i k) ++ (if twP b.late l i k then [⟨(i : Int), (k : Int)⟩] else []) := by rw [twR_succ, List.append_assoc]
      have hks2 : k = l.length → twK b.late l (i + 1) = twK b.late l i ++ twR b.late l i k := fun e => by subst e; rfl
      generalize twK b.late l i ++ twR b.late l i k = A at hal hrs3 hks2 ⊢
      simp -failIfUnchanged (disch := first | omega | (simp <;> omega) | fail) only [go_sem, simprocAttr]
      refine wcond_dec (fun h2 => ?_) (fun h2 => ?_)
      · have hkl : k < l.length := by omega
        obtain ⟨y, hy⟩ : ∃ y, l[k]?.getD default = y := ⟨_, rfl⟩
        have hvy := hve k hkl
        rw [hy] at hvy
        have hn2 := hvy.c.n
        have k79 := c79 b.late x y (by rw [both_len hvx.c hvy.c]; exact Nat.le_refl _) (by omega)
        have htp : twP b.late l i k = comB b.late x y := by
          unfold twP
          rw [hx, hy, decide_eq_true hik, Bool.true_and]
        have hrs2 := hrs3
        rw [htp] at hrs2
        simp -failIfUnchanged (disch := first | omega | (simp <;> omega) | fail) only [go_sem, simprocAttr, hy]
        refine wcall k79 ?_
        simp -failIfUnchanged (disch := first | omega | (simp <;> omega) | fail) only [go_sem, simprocAttr]
        cases hcm : comB b.late x y with
        | true =>
          rw [hcm] at hrs2
          simp -failIfUnchanged (disch := first | omega | (simp <;> omega) | fail) only [go_sem, simprocAttr]
          refine ⟨k + 1, ⟨by omega, by omega⟩, by dsimp only; omega, ?_⟩
          dsimp only
          have hln := congrArg List.length hrs2
          simp only [List.length_append, if_true, Bool.false_eq_true, if_false, List.length_cons, List.length_nil] at hln
          rw [hrs2]
          simp -failIfUnchanged (disch := first | omega | (simp <;> omega) | fail) only [go_sem, simprocAttr]
          try simp
          try omega
        | false =>
          rw [hcm] at hrs2
          simp -failIfUnchanged (disch := first | omega | (simp <;> omega) | fail) only [go_sem, simprocAttr]
          refine ⟨k + 1, ⟨by omega, by omega⟩, by dsimp only; omega, ?_⟩
          dsimp only
          have hln := congrArg List.length hrs2
          simp only [List.length_append, if_true, Bool.false_eq_true, if_false, List.length_cons, List.length_nil] at hln
          rw [hrs2]
          simp -failIfUnchanged (disch := first | omega | (simp <;> omega) | fail) only [go_sem, simprocAttr]
          try simp
          try omega
      · have ek : k = l.length := by omega
        simp -failIfUnchanged (disch := first | omega | (simp <;> omega) | fail) only [go_sem, simprocAttr]
        refine ⟨i + 1, by dsimp only; omega, by dsimp only; omega, ?_⟩
        dsimp only
        rw [hks2 ek]
        simp -failIfUnchanged (disch := first | omega | (simp <;> omega) | fail) only [go_sem, simprocAttr]
        try simp
    · have ei : i = l.length := by omega
      subst ei
      simp -failIfUnchanged (disch := first | omega | (simp <;> omega) | fail) only [go_sem, simprocAttr]
      try simp
  · have hd : decide (¬ e = 0) = true := decide_eq_true h0
    simp -failIfUnchanged (disch := first | omega | (simp <;> omega) | fail) only [go_sem, simprocAttr, hd]
    simp [h0]

end Go.Proofs.Ytemnojaoickjfaa


/- Matchings: how great they can be; in whatever order. -/
set_option linter.unusedSimpArgs false
set_option linter.unusedVariables false
set_option linter.unnecessarySimpa false
namespace Go.Proofs.Ytemnojaoickjfaa
open Go Go.V

theorem fst_gm (b : FB) : GM b b.ones.length (fstM b) := (mem_lrg.1 (fst_most b).1).1
theorem most_le {b : FB} {t : List Pa} (h : GM b b.ones.length t) : t.length ≤ (fstM b).length := (mem_lrg.1 (fst_most b).1).2 t h
theorem lrg_iff {b : FB} {t : List Pa} : t ∈ lrgL b ↔ GM b b.ones.length t ∧ t.length = (fstM b).length := by
  rw [mem_lrg]
  constructor
  · rintro ⟨h1, h2⟩
    exact ⟨h1, Nat.le_antisymm (most_le h1) (h2 _ (fst_gm b))⟩
  · rintro ⟨h1, h2⟩
    exact ⟨h1, fun x hx => by rw [h2]; exact most_le hx⟩

/-! Different numbers below n are at most n. -/
theorem filter_ne_len (a : Int) : ∀ (l : List Int), l.Pairwise (fun x y => x ≠ y) → l.length ≤ (l.filter fun x => decide (x ≠ a)).length + 1
  | [], _ => by simp
  | x :: r, h => by
    have h1 := List.pairwise_cons.1 h
    by_cases e : x = a
    · subst e
      have : (r.filter fun y => decide (y ≠ x)) = r := List.filter_eq_self.2 fun y hy => decide_eq_true (fun e => h1.1 y hy e.symm)
      rw [List.filter_cons, this]
      simp
    · have ih := filter_ne_len a r h1.2
      rw [List.filter_cons, if_pos (decide_eq_true e)]
      simp only [List.length_cons]
      omega
theorem nodup_len : ∀ (n : Nat) (l : List Int), l.Pairwise (fun x y => x ≠ y) → (∀ x ∈ l, 0 ≤ x ∧ x < (n : Int)) → l.length ≤ n
  | 0, l, _, h => by
    cases l with
    | nil => simp
    | cons x r => have := h x (by simp); omega
  | n + 1, l, hd, h => by
    have h1 := filter_ne_len n l hd
    have h2 := nodup_len n (l.filter fun x => decide (x ≠ (n : Int))) (hd.filter _) fun x hx => by
      have hx := List.mem_filter.1 hx
      have h3 := h x hx.1
      have h4 := of_decide_eq_true hx.2
      omega
    omega

/-- A matching in whatever order. -/
structure UM (b : FB) (t : List Pa) : Prop where
  p : ∀ p ∈ t, (0 ≤ p.one ∧ p.one < (b.ones.length : Int)) ∧ (0 ≤ p.other ∧ p.other < (b.others.length : Int)) ∧ comB b.late (one b p.one.toNat) (oth b p.other.toNat) = true
  o : t.Pairwise fun p q => p.one ≠ q.one
  d : t.Pairwise fun p q => p.other ≠ q.other
theorem gm_um {b : FB} {t : List Pa} (h : GM b b.ones.length t) : UM b t := ⟨h.p, h.o.imp fun h => by omega, h.d⟩
theorem um_perm {b : FB} {t s : List Pa} (h : UM b t) (hp : t.Perm s) : UM b s :=
  ⟨fun p hm => h.p p (hp.mem_iff.2 hm), (hp.pairwise_iff (fun h e => h e.symm)).1 h.o, (hp.pairwise_iff (fun h e => h e.symm)).1 h.d⟩
def srtM (t : List Pa) : List Pa := t.mergeSort fun p q => decide (p.one ≤ q.one)
theorem srt_perm (t : List Pa) : (srtM t).Perm t := List.mergeSort_perm _ _
theorem um_gm {b : FB} {t : List Pa} (h : UM b t) : GM b b.ones.length (srtM t) := by
  have hu := um_perm h (srt_perm t).symm
  have hs : (srtM t).Pairwise fun p q => decide (p.one ≤ q.one) = true :=
    List.pairwise_mergeSort (fun a c d h1 h2 => decide_eq_true (by have := of_decide_eq_true h1; have := of_decide_eq_true h2; omega)) (fun a c => by
      rw [Bool.or_eq_true, decide_eq_true_eq, decide_eq_true_eq]; omega) t
  exact ⟨hu.p, (hs.and hu.o).imp fun {p q} h => by have h1 := of_decide_eq_true h.1; have h2 := h.2; omega, hu.d⟩
theorem um_le {b : FB} {t : List Pa} (h : UM b t) : t.length ≤ (fstM b).length := by
  have := most_le (um_gm h)
  rwa [(srt_perm t).length_eq] at this
theorem um_others {b : FB} {t : List Pa} (h : UM b t) : t.length ≤ b.others.length := by
  have := nodup_len b.others.length (t.map fun p => p.other) (h.d.map _ fun _ _ h => h) fun x hx => by
    obtain ⟨p, hp, rfl⟩ := List.mem_map.1 hx
    exact (h.p p hp).2.1
  simpa using this
theorem fst_others (b : FB) : (fstM b).length ≤ b.others.length := um_others (gm_um (fst_gm b))
theorem fst_ones (b : FB) : (fstM b).length ≤ b.ones.length := gm_len (fst_gm b)

/-- Fewest as the laws ask for it. -/
theorem c23 (b : FB) (hs : SmF b) (hc : chkB b = true) : Ctr Try.prog 23 [FK b] (.tup [.int (fewI b), .bool true]) := by
  refine ctr_of_wp hmix Try.func23 m23 rfl ?_
  unfold v23
  have k := c28 b hs
  have he : errF b = 0 := by unfold errF; rw [hc]; rfl
  unfold fewR at k
  rw [he, if_pos hc] at k
  have h1 := fst_others b
  have h2 := fst_ones b
  have hv := vf_of hc
  have hn1 := hv.n1
  have hn2 := hv.n2
  have hf : fewI b = (b.ones.length : Int) + b.others.length - (fstM b).length := rfl
  generalize fewI b = F at *
  have e1 : decide (max (b.ones.length : Int) b.others.length ≤ F) = true := decide_eq_true (by omega)
  have e2 : decide (F ≤ (b.ones.length : Int) + b.others.length) = true := decide_eq_true (by omega)
  simp -failIfUnchanged (disch := first | omega | (simp <;> omega) | fail) only [go_sem, simprocAttr]
  refine wcall k ?_
  simp -failIfUnchanged (disch := first | omega | (simp <;> omega) | fail) only [go_sem, simprocAttr, eq_self, e1, e2]

theorem rdy_of {b : FB} (h : rdyF b = true) : SmF b ∧ chkB b = true ∧ VF b := by
  unfold rdyF at h
  rw [Bool.and_eq_true, Bool.not_eq_true'] at h
  exact ⟨smf_of h.1, h.2, vf_of h.2⟩

/-! What the answers say of each largest matching. -/
theorem ld_le {b : FB} (hv : VF b) {t : List Pa} (ht : t ∈ lrgL b) : 0 ≤ ldK b (lrgL b) (lrgL b).length ∧ ldK b (lrgL b) (lrgL b).length ≤ dsI b t := by
  have hgm : ∀ x ∈ lrgL b, GM b b.ones.length x := fun x hx => (mem_lrg.1 hx).1
  have h0 : 0 < (lrgL b).length := List.length_pos_iff.2 (lrgL_ne b)
  have hlm : ldK b (lrgL b) (lrgL b).length = mnK b (lrgL b) (lrgL b).length := by
    have := ld_mn hv hgm ((lrgL b).length - 1) (by omega)
    rwa [show (lrgL b).length - 1 + 1 = (lrgL b).length by omega] at this
  rw [hlm]
  generalize lrgL b = M at *
  have key : ∀ k, k ≤ M.length → 0 ≤ mnK b M k ∧ ∀ i, i < k → mnK b M k ≤ dsI b (M[i]?.getD default) := by
    intro k
    induction k with
    | zero => intro _; exact ⟨(dsK_bd hv (hgm _ (mem_getD h0)) _ (Nat.le_refl _)).1, fun i hi => by omega⟩
    | succ k ih =>
      intro hk
      obtain ⟨a1, a2⟩ := ih (by omega)
      have a3 : 0 ≤ dsI b (M[k]?.getD default) := (dsK_bd hv (hgm _ (mem_getD (by omega))) _ (Nat.le_refl _)).1
      unfold mnK
      refine ⟨by omega, fun i hi => ?_⟩
      by_cases e : i = k
      · subst e; omega
      · have := a2 i (by omega); omega
  obtain ⟨i, hi, e⟩ := List.mem_iff_getElem.1 ht
  obtain ⟨a1, a2⟩ := key M.length (Nat.le_refl _)
  have := a2 i hi
  rw [List.getElem?_eq_getElem hi] at this
  refine ⟨a1, ?_⟩
  rw [← e]
  exact this
theorem rg_le {b : FB} (who : Int) {t : List Pa} (ht : t ∈ lrgL b) : (rgK b who (lrgL b) (lrgL b).length).lo ≤ (owdI b t who).lo ∧ (owdI b t who).hi ≤ (rgK b who (lrgL b) (lrgL b).length).hi := by
  generalize lrgL b = M at *
  have key : ∀ k, ∀ i, i < k → (rgK b who M k).lo ≤ (owdI b (M[i]?.getD default) who).lo ∧ (owdI b (M[i]?.getD default) who).hi ≤ (rgK b who M k).hi := by
    intro k
    induction k with
    | zero => intro i hi; omega
    | succ k ih =>
      intro i hi
      unfold rgK
      dsimp only
      by_cases e : i = k
      · subst e; omega
      · have := ih i (by omega); omega
  obtain ⟨i, hi, e⟩ := List.mem_iff_getElem.1 ht
  have := key M.length i hi
  rw [List.getElem?_eq_getElem hi] at this
  rw [← e]
  exact this
end Go.Proofs.Ytemnojaoickjfaa


/- FinesLater. -/
set_option linter.unusedSimpArgs false
set_option linter.unusedVariables false
set_option linter.unnecessarySimpa false
namespace Go.Proofs.Ytemnojaoickjfaa
open Go Go.V

theorem com_late {b : FB} {l : Int} (hl : b.late ≤ l) {x y : En} (h : comB b.late x y = true) : comB (lat b l).late x y = true := by
  unfold comB at h ⊢
  simp only [Bool.and_eq_true, decide_eq_true_eq] at h ⊢
  exact ⟨h.1, Int.le_trans h.2.1 hl, h.2.2⟩
theorem gm_late {b : FB} {l : Int} (hl : b.late ≤ l) {t : List Pa} (h : GM b b.ones.length t) : GM (lat b l) (lat b l).ones.length t :=
  ⟨fun p hp => ⟨(h.p p hp).1, (h.p p hp).2.1, com_late hl (h.p p hp).2.2⟩, h.o, h.d⟩
theorem few_late {b : FB} {l : Int} (hl : b.late ≤ l) : fewI (lat b l) ≤ fewI b := by
  have := most_le (gm_late hl (fst_gm b))
  unfold fewI
  show (b.ones.length : Int) + b.others.length - _ ≤ _
  omega
theorem few_lat2 {b : FB} {l m : Int} (hl : l ≤ m) : fewI (lat b m) ≤ fewI (lat b l) := few_late (b := lat b l) hl
theorem fstN_spec (p : Nat → Bool) (n : Nat) : ∃ k, fstN p n = k ∧ k ≤ n ∧ (∀ i, i < k → p i = false) ∧ (k = n ∨ p k = true) := by
  have key : ∀ m, (∃ k, k ≤ m ∧ (∀ i, i < k → p i = false) ∧ (k = m ∨ p k = true)) := by
    intro m
    induction m with
    | zero => exact ⟨0, Nat.le_refl _, fun i hi => by omega, .inl rfl⟩
    | succ m ih =>
      obtain ⟨k, h1, h2, h3⟩ := ih
      by_cases hk : p k = true
      · exact ⟨k, by omega, h2, .inr hk⟩
      · have e : k = m := h3.resolve_right hk
        subst e
        exact ⟨k + 1, Nat.le_refl _, fun i hi => by
          by_cases e : i = k
          · subst e; simpa using hk
          · exact h2 i (by omega), .inl rfl⟩
  obtain ⟨k, h1, h2, h3⟩ := key n
  exact ⟨k, fstN_eq h1 h2 h3, h1, h2, h3⟩
theorem lt_spec (b : FB) : ltN b ≤ 30 ∧ fewI (lat b (ltN b : Nat)) = fewI (lat b 30) ∧ ∀ i : Nat, i < ltN b → fewI (lat b 30) < fewI (lat b i) := by
  obtain ⟨k, h1, h2, h3, h4⟩ := fstN_spec (ltP b) 30
  have h1' : ltN b = k := h1
  rw [h1']
  refine ⟨h2, ?_, fun i hi => ?_⟩
  · apply Int.le_antisymm
    · rcases h4 with rfl | h4
      · exact Int.le_refl _
      · exact of_decide_eq_true h4
    · exact few_lat2 (by omega)
  · have := of_decide_eq_false (h3 i hi)
    omega
theorem chk_lat {b : FB} (hc : chkB b = true) {l : Int} (h : 0 ≤ l ∧ l ≤ 30) : chkB (lat b l) = true := by
  unfold chkB at hc ⊢
  simp only [Bool.and_eq_true] at hc ⊢
  exact ⟨hc.1, hc.2.1, by unfold within; exact decide_eq_true h, hc.2.2.2⟩

set_option maxRecDepth 10000 in
theorem c7 (b : FB) (l : Int) (p : Pa) : Ctr Try.prog 7 [FK b, .int l, PA p] (.bool true) := by
  refine ctr_of_wp hmix Try.func7 m7 rfl ?_
  unfold v7
  simp -failIfUnchanged (disch := first | omega | (simp <;> omega) | fail) only [go_sem, simprocAttr]
  refine wcall (c22 b) ?_
  cases hr : rdyF b with
  | false =>
    simp -failIfUnchanged (disch := first | omega | (simp <;> omega) | fail) only [go_sem, simprocAttr]
    refine wcall c15 ?_
    simp -failIfUnchanged (disch := first | omega | (simp <;> omega) | fail) only [go_sem, simprocAttr]
  | true =>
    obtain ⟨hs, hc, hv⟩ := rdy_of hr
    simp -failIfUnchanged (disch := first | omega | (simp <;> omega) | fail) only [go_sem, simprocAttr]
    refine wcall (c33 l b.late 30) ?_
    cases hw : within l b.late 30 with
    | false =>
      simp -failIfUnchanged (disch := first | omega | (simp <;> omega) | fail) only [go_sem, simprocAttr]
      refine wcall c15 ?_
      simp -failIfUnchanged (disch := first | omega | (simp <;> omega) | fail) only [go_sem, simprocAttr]
    | true =>
      have hw' : b.late ≤ l ∧ l ≤ 30 := by simpa [within] using hw
      have hla := hv.la
      obtain ⟨g1, g2, g3⟩ := lt_spec b
      have k23 := c23 b hs hc
      have k24 := c23 (lat b l) (sm_lat hs l) (chk_lat hc (by omega))
      have k25 := c23 (lat b 30) (sm_lat hs 30) (chk_lat hc (by omega))
      have k26 := c23 (lat b (ltN b : Nat)) (sm_lat hs _) (chk_lat hc (by omega))
      have k19 := c19 b hs
      have he : errF b = 0 := by unfold errF; rw [hc]; rfl
      unfold ltR at k19
      rw [he, if_pos hc] at k19
      have k34 := c34 b hs l
      have k35 := c34 b hs 30
      have k36 := c34 b hs (ltN b : Nat)
      have hle := few_late hw'.1
      have a1 := c37 b hs p.one p.other
      have a2 := c37 (lat b l) (sm_lat hs l) p.one p.other
      have a3 := c35 b p.one
      have a4 := c36 b p.other
      unfold samR at a1 a2
      have hpe : prE (lat b l) p.one p.other = askF (lat b l) (oneI b p.one && othI b p.other) := rfl
      have hpe1 : prE b p.one p.other = askF b (oneI b p.one && othI b p.other) := rfl
      have hk3 : Ctr Try.prog 33 [.int (ltN b : Nat), .int 0, .int 30] (.bool true) := by
        have := c33 (ltN b : Nat) 0 30
        rwa [show within (ltN b : Nat) 0 30 = true by unfold within; exact decide_eq_true (by omega)] at this
      have hbef : ∀ q : Nat, ltN b = q + 1 → Ctr Try.prog 34 [FK b, .int (q : Nat)] (FK (lat b (q : Nat))) ∧ Ctr Try.prog 23 [FK (lat b (q : Nat))] (.tup [.int (fewI (lat b (q : Nat))), .bool true]) ∧ fewI (lat b 30) < fewI (lat b (q : Nat)) := fun q hq =>
        ⟨c34 b hs q, c23 (lat b (q : Nat)) (sm_lat hs _) (chk_lat hc (by omega)), g3 q (by omega)⟩
      rw [g2] at k26
      generalize ltN b = K at *
      have d0 : decide (¬ (0 : Int) = 0) = false := rfl
      have d1 : decide (fewI b < fewI (lat b l)) = false := decide_eq_false (by omega)
      have d2 : decide (¬ fewI (lat b 30) = fewI (lat b 30)) = false := decide_eq_false (by simp)
      have hone : oneI b p.one = within p.one 0 (w64 ((b.ones.length : Int) - 1)) := rfl
      have hoth : othI b p.other = within p.other 0 (w64 ((b.others.length : Int) - 1)) := rfl
      obtain ⟨u, hu⟩ : ∃ u, within p.one 0 (w64 ((b.ones.length : Int) - 1)) = u := ⟨_, rfl⟩
      obtain ⟨v, hvv⟩ : ∃ v, within p.other 0 (w64 ((b.others.length : Int) - 1)) = v := ⟨_, rfl⟩
      rw [hone, hoth, hu, hvv] at hpe hpe1
      rw [hu] at a3
      rw [hvv] at a4
      unfold FK at a2 k24 k25 k26 k34 k35 k36
      simp -failIfUnchanged (disch := first | omega | (simp <;> omega) | fail) only [go_sem, simprocAttr]
      refine wcall k34 ?_
      simp -failIfUnchanged (disch := first | omega | (simp <;> omega) | fail) only [go_sem, simprocAttr]
      refine wcall k23 ?_
      simp -failIfUnchanged (disch := first | omega | (simp <;> omega) | fail) only [go_sem, simprocAttr]
      refine wcall k24 ?_
      simp -failIfUnchanged (disch := first | omega | (simp <;> omega) | fail) only [go_sem, simprocAttr]
      refine wcall k19 ?_
      simp -failIfUnchanged (disch := first | omega | (simp <;> omega) | fail) only [go_sem, simprocAttr, d0, d1]
      refine wcall hk3 ?_
      simp -failIfUnchanged (disch := first | omega | (simp <;> omega) | fail) only [go_sem, simprocAttr]
      refine wcall k35 ?_
      simp -failIfUnchanged (disch := first | omega | (simp <;> omega) | fail) only [go_sem, simprocAttr]
      refine wcall k25 ?_
      simp -failIfUnchanged (disch := first | omega | (simp <;> omega) | fail) only [go_sem, simprocAttr]
      refine wcall k36 ?_
      simp -failIfUnchanged (disch := first | omega | (simp <;> omega) | fail) only [go_sem, simprocAttr]
      refine wcall k26 ?_
      simp -failIfUnchanged (disch := first | omega | (simp <;> omega) | fail) only [go_sem, simprocAttr, d2]
      refine tailed (T := ?T) (fun tail => ?mm) ?tt
      case mm =>
        refine wcond_dec (fun h0 => ?_) (fun h0 => ?_)
        · obtain ⟨q, rfl⟩ : ∃ q, K = q + 1 := ⟨K - 1, by omega⟩
          obtain ⟨b1, b2, b3⟩ := hbef q rfl
          have e1 : (((q + 1 : Nat) : Int) - 1) = (q : Nat) := by omega
          have d3 : decide (fewI (lat b (q : Nat)) ≤ fewI (lat b 30)) = false := decide_eq_false (by omega)
          unfold FK at b1 b2
          simp -failIfUnchanged (disch := first | omega | (simp <;> omega) | fail) only [go_sem, simprocAttr, e1]
          refine wcall b1 ?_
          simp -failIfUnchanged (disch := first | omega | (simp <;> omega) | fail) only [go_sem, simprocAttr]
          refine wcall b2 ?_
          simp -failIfUnchanged (disch := first | omega | (simp <;> omega) | fail) only [go_sem, simprocAttr, d3]
          exact tail.out
        · simp -failIfUnchanged (disch := first | omega | (simp <;> omega) | fail) only [go_sem, simprocAttr]
          exact tail.out
      case tt =>
        refine wcall a3 ?_
        cases u with
        | false =>
          simp -failIfUnchanged (disch := first | omega | (simp <;> omega) | fail) only [go_sem, simprocAttr]
          refine wcall c15 ?_
          simp -failIfUnchanged (disch := first | omega | (simp <;> omega) | fail) only [go_sem, simprocAttr]
        | true =>
          simp -failIfUnchanged (disch := first | omega | (simp <;> omega) | fail) only [go_sem, simprocAttr]
          refine wcall a4 ?_
          cases v with
          | false =>
            simp -failIfUnchanged (disch := first | omega | (simp <;> omega) | fail) only [go_sem, simprocAttr]
            refine wcall c15 ?_
            simp -failIfUnchanged (disch := first | omega | (simp <;> omega) | fail) only [go_sem, simprocAttr]
          | true =>
            have e1 : prE b p.one p.other = 0 := by rw [hpe1]; exact ask_ok hc rfl
            have e2 : prE (lat b l) p.one p.other = 0 := by rw [hpe]; exact ask_ok (chk_lat hc (by omega)) rfl
            rw [e1, if_pos rfl] at a1
            rw [e2, if_pos rfl] at a2
            have h1 : comB b.late (one b p.one.toNat) (oth b p.other.toNat) = true → comB (lat b l).late (one (lat b l) p.one.toNat) (oth (lat b l) p.other.toNat) = true := com_late hw'.1
            generalize comB b.late (one b p.one.toNat) (oth b p.other.toNat) = X at *
            generalize comB (lat b l).late (one (lat b l) p.one.toNat) (oth (lat b l) p.other.toNat) = Y at *
            simp -failIfUnchanged (disch := first | omega | (simp <;> omega) | fail) only [go_sem, simprocAttr]
            refine wcall a1 ?_
            simp -failIfUnchanged (disch := first | omega | (simp <;> omega) | fail) only [go_sem, simprocAttr]
            refine wcall a2 ?_
            simp -failIfUnchanged (disch := first | omega | (simp <;> omega) | fail) only [go_sem, simprocAttr, eq_self]
            cases X with
            | false =>
              simp -failIfUnchanged (disch := first | omega | (simp <;> omega) | fail) only [go_sem, simprocAttr]
              refine wcall c15 ?_
              simp -failIfUnchanged (disch := first | omega | (simp <;> omega) | fail) only [go_sem, simprocAttr]
            | true =>
              rw [h1 rfl]
              simp -failIfUnchanged (disch := first | omega | (simp <;> omega) | fail) only [go_sem, simprocAttr]
              refine wcall c15 ?_
              simp -failIfUnchanged (disch := first | omega | (simp <;> omega) | fail) only [go_sem, simprocAttr]

end Go.Proofs.Ytemnojaoickjfaa


/- Matchings of other books: maps; the books the other way around. -/
set_option linter.unusedSimpArgs false
set_option linter.unusedVariables false
set_option linter.unnecessarySimpa false
namespace Go.Proofs.Ytemnojaoickjfaa
open Go Go.V

/-- Matchings by maps of the entries. -/
theorem um_map {b o : FB} {f g : Int → Int} {t : List Pa} (h : UM o t)
    (hr : ∀ p ∈ t, (0 ≤ f p.one ∧ f p.one < (b.ones.length : Int)) ∧ (0 ≤ g p.other ∧ g p.other < (b.others.length : Int)) ∧ comB b.late (one b (f p.one).toNat) (oth b (g p.other).toNat) = true)
    (hf : ∀ p ∈ t, ∀ q ∈ t, f p.one = f q.one → p.one = q.one) (hg : ∀ p ∈ t, ∀ q ∈ t, g p.other = g q.other → p.other = q.other) :
    UM b (t.map fun p => ⟨f p.one, g p.other⟩) := by
  refine ⟨fun p hp => ?_, ?_, ?_⟩
  · obtain ⟨q, hq, rfl⟩ := List.mem_map.1 hp
    exact hr q hq
  · rw [List.pairwise_map]
    exact h.o.imp_of_mem fun {p q} hp hq hne e => hne (hf p hp q hq e)
  · rw [List.pairwise_map]
    exact h.d.imp_of_mem fun {p q} hp hq hne e => hne (hg p hp q hq e)
theorem um_filter {b : FB} {t : List Pa} (h : UM b t) (p : Pa → Bool) : UM b (t.filter p) :=
  ⟨fun x hx => h.p x (List.mem_filter.1 hx).1, h.o.filter _, h.d.filter _⟩

/-- Sums of integers over pairs. -/
def lI (F : Pa → Int) : List Pa → Int
  | [] => 0
  | p :: r => F p + lI F r
theorem lI_app (F : Pa → Int) : ∀ (l r : List Pa), lI F (l ++ r) = lI F l + lI F r
  | [], r => by simp [lI]
  | p :: l, r => by
    show F p + lI F (l ++ r) = _
    rw [lI_app F l r]
    show F p + (lI F l + lI F r) = (F p + lI F l) + lI F r
    omega
theorem lS_map (F : Pa → Sp) (m : Pa → Pa) : ∀ (l : List Pa), lS F (l.map m) = lS (fun p => F (m p)) l
  | [] => rfl
  | p :: l => by
    show addS (F (m p)) (lS F (l.map m)) = _
    rw [lS_map F m l]
    rfl
def dyF (b : FB) (p : Pa) : Int := dayI (one b p.one.toNat) (oth b p.other.toNat)
theorem dsK_eq (b : FB) (t : List Pa) : ∀ k, k ≤ t.length → dsK b t k = lI (dyF b) (t.take k)
  | 0, _ => by simp [dsK, lI]
  | k + 1, h => by
    have ih := dsK_eq b t k (by omega)
    obtain ⟨p, hp⟩ : ∃ p, t[k]?.getD default = p := ⟨_, rfl⟩
    have hts : t.take (k + 1) = t.take k ++ [p] := by
      have e2 : t[k] = p := by rw [← hp, List.getElem?_eq_getElem (by omega)]; rfl
      rw [List.take_add_one, List.getElem?_eq_getElem (by omega), e2]; rfl
    unfold dsK
    rw [hp, hts, lI_app, ← ih]
    simp [lI, dyF]
theorem ds_eq (b : FB) (t : List Pa) : dsI b t = lI (dyF b) t := by
  unfold dsI
  rw [dsK_eq b t _ (Nat.le_refl _), List.take_length]
theorem rg_at {b : FB} (who : Int) : (∃ t ∈ lrgL b, (rgK b who (lrgL b) (lrgL b).length).lo = (owdI b t who).lo) ∧ ∃ t ∈ lrgL b, (rgK b who (lrgL b) (lrgL b).length).hi = (owdI b t who).hi := by
  have h0 : 0 < (lrgL b).length := List.length_pos_iff.2 (lrgL_ne b)
  generalize lrgL b = M at *
  have key : ∀ k, k ≤ M.length → (∃ t ∈ M, (rgK b who M k).lo = (owdI b t who).lo) ∧ ∃ t ∈ M, (rgK b who M k).hi = (owdI b t who).hi := by
    intro k
    induction k with
    | zero => intro _; exact ⟨⟨_, mem_getD h0, rfl⟩, ⟨_, mem_getD h0, rfl⟩⟩
    | succ k ih =>
      intro hk
      obtain ⟨⟨t, h1, h2⟩, s, h3, h4⟩ := ih (by omega)
      have hm := mem_getD (by omega : k < M.length)
      unfold rgK
      dsimp only
      constructor
      · rcases Int.le_total (rgK b who M k).lo (owdI b (M[k]?.getD default) who).lo with h | h
        · exact ⟨t, h1, by rw [Int.min_eq_left h, h2]⟩
        · exact ⟨_, hm, by rw [Int.min_eq_right h]⟩
      · rcases Int.le_total (rgK b who M k).hi (owdI b (M[k]?.getD default) who).hi with h | h
        · exact ⟨_, hm, by rw [Int.max_eq_right h]⟩
        · exact ⟨s, h3, by rw [Int.max_eq_left h, h4]⟩
  exact key _ (Nat.le_refl _)
/-- What is owed is the same if the largest matchings owe the same. -/
theorem rg_same {b o : FB} {who who' : Int} (h1 : ∀ t ∈ lrgL b, ∃ s ∈ lrgL o, owdI o s who' = owdI b t who) (h2 : ∀ s ∈ lrgL o, ∃ t ∈ lrgL b, owdI b t who = owdI o s who') :
    rgK b who (lrgL b) (lrgL b).length = rgK o who' (lrgL o) (lrgL o).length := by
  obtain ⟨⟨t1, a1, a2⟩, t2, a3, a4⟩ := rg_at (b := b) who
  obtain ⟨⟨s1, b1, b2⟩, s2, b3, b4⟩ := rg_at (b := o) who'
  obtain ⟨x1, x2, x3⟩ := h1 t1 a1
  obtain ⟨x4, x5, x6⟩ := h1 t2 a3
  obtain ⟨y1, y2, y3⟩ := h2 s1 b1
  obtain ⟨y4, y5, y6⟩ := h2 s2 b3
  have c1 := rg_le who' x2
  have c2 := rg_le who' x5
  have c3 := rg_le who y2
  have c4 := rg_le who y5
  rw [x3] at c1
  rw [x6] at c2
  rw [y3] at c3
  rw [y6] at c4
  exact sp_ext (by omega) (by omega)

end Go.Proofs.Ytemnojaoickjfaa


/- Books without an entry. -/
set_option linter.unusedSimpArgs false
set_option linter.unusedVariables false
set_option linter.unnecessarySimpa false
namespace Go.Proofs.Ytemnojaoickjfaa
open Go Go.V

end Go.Proofs.Ytemnojaoickjfaa


/- Books with the entries of a person alone. -/
set_option linter.unusedSimpArgs false
set_option linter.unusedVariables false
set_option linter.unnecessarySimpa false
namespace Go.Proofs.Ytemnojaoickjfaa
open Go Go.V

def minL (l : List En) (w : Int) : List En := l.filter fun e => decide (e.who = w)
abbrev ofB (b : FB) (w : Int) : FB := { b with ones := minL b.ones w, others := minL b.others w }
def ixL (l : List En) (w : Int) : List Nat := (List.range l.length).filter fun i => decide ((l[i]?.getD default).who = w)
theorem list_get (l : List En) : l = (List.range l.length).map fun i => l[i]?.getD default := by
  apply List.ext_getElem?
  intro i
  rcases Nat.lt_or_ge i l.length with h | h
  · rw [List.getElem?_map, List.getElem?_range h, List.getElem?_eq_getElem h]
    simp [h]
  · rw [List.getElem?_eq_none h, List.getElem?_eq_none (by simpa using h)]
theorem minL_ix (l : List En) (w : Int) : minL l w = (ixL l w).map fun i => l[i]?.getD default := by
  have h : minL l w = minL ((List.range l.length).map fun i => l[i]?.getD default) w := by rw [← list_get l]
  rw [h]
  unfold minL ixL
  rw [List.filter_map]
  rfl
theorem ix_len (l : List En) (w : Int) : (minL l w).length = (ixL l w).length := by rw [minL_ix, List.length_map]
theorem ix_mem {l : List En} {w : Int} {i : Nat} : i ∈ ixL l w ↔ i < l.length ∧ (l[i]?.getD default).who = w := by
  unfold ixL
  rw [List.mem_filter, List.mem_range, decide_eq_true_eq]
theorem ix_nd (l : List En) (w : Int) : (ixL l w).Pairwise fun x y => x ≠ y := by
  unfold ixL
  exact (List.pairwise_lt_range.imp fun h => by omega).filter _
theorem minL_get {l : List En} {w : Int} {k : Nat} (h : k < (ixL l w).length) : (minL l w)[k]?.getD default = l[(ixL l w)[k]]?.getD default := by
  rw [minL_ix, List.getElem?_map, List.getElem?_eq_getElem h]
  rfl
theorem min_mem {l : List En} {w : Int} {x : En} (h : x ∈ minL l w) : x ∈ l := (List.mem_filter.1 h).1
theorem min_le (l : List En) (w : Int) : (minL l w).length ≤ l.length := List.length_filter_le _ _
theorem vf_of2 {b : FB} (hv : VF b) (w : Int) : VF (ofB b w) :=
  ⟨hv.bs, hv.pl, hv.pe, hv.la, Nat.le_trans (min_le _ _) hv.n1, Nat.le_trans (min_le _ _) hv.n2,
   fun x hx => ⟨(hv.e1 x (min_mem hx)).d, (hv.e1 x (min_mem hx)).w, ⟨(hv.e1 x (min_mem hx)).c.n, (hv.e1 x (min_mem hx)).c.s⟩⟩, fun x hx => ⟨(hv.e2 x (min_mem hx)).d, (hv.e2 x (min_mem hx)).w, ⟨(hv.e2 x (min_mem hx)).c.n, (hv.e2 x (min_mem hx)).c.s⟩⟩⟩
theorem chk_ofB {b : FB} (hc : chkB b = true) (w : Int) : chkB (ofB b w) = true := by
  have key : ∀ l : List En, listB b l = true → listB b (minL l w) = true := fun l h => by
    unfold listB at h ⊢
    simp only [Bool.and_eq_true, decide_eq_true_eq, List.all_eq_true] at h ⊢
    refine ⟨?_, fun x hx => h.2 x (min_mem hx)⟩
    have := min_le l w
    omega
  unfold chkB at hc ⊢
  simp only [Bool.and_eq_true] at hc ⊢
  obtain ⟨c1, c2, c3, c4, c5⟩ := hc
  exact ⟨c1, c2, c3, key _ c4, key _ c5⟩
theorem sm_of2 {b : FB} (hs : SmF b) (w : Int) : SmF (ofB b w) :=
  ⟨⟨Nat.lt_of_le_of_lt (min_le _ _) hs.ones.n, fun x hx => hs.ones.c x (min_mem hx)⟩, ⟨Nat.lt_of_le_of_lt (min_le _ _) hs.others.n, fun x hx => hs.others.c x (min_mem hx)⟩⟩

/-! The entries' numbers there and here. -/
def toI (ix : List Nat) (i : Int) : Int := ((ix[i.toNat]?.getD 0 : Nat) : Int)
def frI (ix : List Nat) (j : Int) : Int := ((ix.idxOf j.toNat : Nat) : Int)
theorem toI_at {ix : List Nat} {i : Int} (h0 : 0 ≤ i) (h : i < (ix.length : Int)) : ∃ k : Nat, i = k ∧ ∃ hk : k < ix.length, toI ix i = (ix[k] : Nat) := by
  refine ⟨i.toNat, by omega, by omega, ?_⟩
  unfold toI
  rw [List.getElem?_eq_getElem (by omega)]
  rfl
theorem toI_inj {ix : List Nat} (hd : ix.Pairwise fun x y => x ≠ y) {i j : Int} (hi : 0 ≤ i ∧ i < (ix.length : Int)) (hj : 0 ≤ j ∧ j < (ix.length : Int)) (h : toI ix i = toI ix j) : i = j := by
  obtain ⟨k, rfl, hk, e1⟩ := toI_at hi.1 hi.2
  obtain ⟨m, rfl, hm, e2⟩ := toI_at hj.1 hj.2
  rw [e1, e2] at h
  have h : ix[k] = ix[m] := by omega
  rcases Nat.lt_trichotomy k m with h1 | h1 | h1
  · exact absurd h (List.pairwise_iff_getElem.1 hd k m hk hm h1)
  · omega
  · exact absurd h.symm (List.pairwise_iff_getElem.1 hd m k hm hk h1)
theorem fr_at {ix : List Nat} {j : Int} (h : j.toNat ∈ ix) (h0 : 0 ≤ j) : (0 ≤ frI ix j ∧ frI ix j < (ix.length : Int)) ∧ toI ix (frI ix j) = j := by
  have hlt : ix.idxOf j.toNat < ix.length := List.idxOf_lt_length_iff.2 h
  refine ⟨by unfold frI; omega, ?_⟩
  unfold toI frI
  rw [Int.toNat_natCast, List.getElem?_eq_getElem hlt, Option.getD_some, List.getElem_idxOf]
  omega

def whP (b : FB) (p : Pa) : Int := (one b p.one.toNat).who
theorem wh_oth {b : FB} {t : List Pa} (h : UM b t) {p : Pa} (hp : p ∈ t) : (oth b p.other.toNat).who = whP b p := by
  have := (h.p p hp).2.2
  unfold comB at this
  simp only [Bool.and_eq_true, decide_eq_true_eq] at this
  exact this.1.symm
def toP (b : FB) (w : Int) (p : Pa) : Pa := ⟨toI (ixL b.ones w) p.one, toI (ixL b.others w) p.other⟩
def frP (b : FB) (w : Int) (p : Pa) : Pa := ⟨frI (ixL b.ones w) p.one, frI (ixL b.others w) p.other⟩
theorem one_to {b : FB} {w i : Int} (h0 : 0 ≤ i) (h : i < ((ofB b w).ones.length : Int)) : one b (toI (ixL b.ones w) i).toNat = one (ofB b w) i.toNat ∧ (toI (ixL b.ones w) i).toNat ∈ ixL b.ones w ∧ 0 ≤ toI (ixL b.ones w) i := by
  have h' : i < ((ixL b.ones w).length : Int) := by rw [← ix_len]; exact h
  obtain ⟨k, rfl, hk, e⟩ := toI_at h0 h'
  rw [e]
  refine ⟨?_, by rw [Int.toNat_natCast]; exact List.getElem_mem _, by omega⟩
  rw [Int.toNat_natCast, Int.toNat_natCast]
  exact (minL_get hk).symm
theorem oth_to {b : FB} {w i : Int} (h0 : 0 ≤ i) (h : i < ((ofB b w).others.length : Int)) : oth b (toI (ixL b.others w) i).toNat = oth (ofB b w) i.toNat ∧ (toI (ixL b.others w) i).toNat ∈ ixL b.others w ∧ 0 ≤ toI (ixL b.others w) i := by
  have h' : i < ((ixL b.others w).length : Int) := by rw [← ix_len]; exact h
  obtain ⟨k, rfl, hk, e⟩ := toI_at h0 h'
  rw [e]
  refine ⟨?_, by rw [Int.toNat_natCast]; exact List.getElem_mem _, by omega⟩
  rw [Int.toNat_natCast, Int.toNat_natCast]
  exact (minL_get hk).symm
theorem um_to {b : FB} {w : Int} {t : List Pa} (h : UM (ofB b w) t) : UM b (t.map (toP b w)) ∧ ∀ p ∈ t.map (toP b w), whP b p = w := by
  have l1 : ((ofB b w).ones.length : Int) = ((ixL b.ones w).length : Int) := by rw [← ix_len]
  have l2 : ((ofB b w).others.length : Int) = ((ixL b.others w).length : Int) := by rw [← ix_len]
  constructor
  · refine um_map (f := toI (ixL b.ones w)) (g := toI (ixL b.others w)) h (fun p hp => ?_) (fun p hp q hq e => ?_) (fun p hp q hq e => ?_)
    · obtain ⟨h1, h2, h3⟩ := h.p p hp
      obtain ⟨a1, a2, a3⟩ := one_to h1.1 h1.2
      obtain ⟨b1, b2, b3⟩ := oth_to h2.1 h2.2
      have c1 := (ix_mem.1 a2).1
      have c2 := (ix_mem.1 b2).1
      refine ⟨by omega, by omega, ?_⟩
      rw [a1, b1]
      exact h3
    · have h1 := (h.p p hp).1
      have h2 := (h.p q hq).1
      exact toI_inj (ix_nd _ _) (by omega) (by omega) e
    · have h1 := (h.p p hp).2.1
      have h2 := (h.p q hq).2.1
      exact toI_inj (ix_nd _ _) (by omega) (by omega) e
  · intro p hp
    obtain ⟨q, hq, rfl⟩ := List.mem_map.1 hp
    have h1 := (h.p q hq).1
    obtain ⟨_, a2, _⟩ := one_to h1.1 h1.2
    exact (ix_mem.1 a2).2
theorem to_fr {b : FB} {w : Int} {t : List Pa} (h : UM b t) (hw : ∀ p ∈ t, whP b p = w) {p : Pa} (hp : p ∈ t) :
    (0 ≤ frI (ixL b.ones w) p.one ∧ frI (ixL b.ones w) p.one < ((ofB b w).ones.length : Int)) ∧ (0 ≤ frI (ixL b.others w) p.other ∧ frI (ixL b.others w) p.other < ((ofB b w).others.length : Int)) ∧ toP b w (frP b w p) = p := by
  have l1 : ((ofB b w).ones.length : Int) = ((ixL b.ones w).length : Int) := by rw [← ix_len]
  have l2 : ((ofB b w).others.length : Int) = ((ixL b.others w).length : Int) := by rw [← ix_len]
  obtain ⟨h1, h2, h3⟩ := h.p p hp
  have a1 : p.one.toNat ∈ ixL b.ones w := ix_mem.2 ⟨by omega, hw p hp⟩
  have a2 : p.other.toNat ∈ ixL b.others w := ix_mem.2 ⟨by omega, by have := wh_oth h hp; rw [hw p hp] at this; exact this⟩
  obtain ⟨b1, b2⟩ := fr_at a1 h1.1
  obtain ⟨c1, c2⟩ := fr_at a2 h2.1
  refine ⟨by omega, by omega, ?_⟩
  unfold toP frP
  dsimp only
  rw [b2, c2]
theorem um_fr {b : FB} {w : Int} {t : List Pa} (h : UM b t) (hw : ∀ p ∈ t, whP b p = w) : UM (ofB b w) (t.map (frP b w)) := by
  refine um_map (f := frI (ixL b.ones w)) (g := frI (ixL b.others w)) h (fun p hp => ?_) (fun p hp q hq e => ?_) (fun p hp q hq e => ?_)
  · obtain ⟨a1, a2, a3⟩ := to_fr h hw hp
    refine ⟨a1, a2, ?_⟩
    rw [← (one_to a1.1 a1.2).1, ← (oth_to a2.1 a2.2).1]
    have e1 : toI (ixL b.ones w) (frI (ixL b.ones w) p.one) = p.one := congrArg Pa.one a3
    have e2 : toI (ixL b.others w) (frI (ixL b.others w) p.other) = p.other := congrArg Pa.other a3
    rw [e1, e2]
    exact (h.p p hp).2.2
  · have e1 : toI (ixL b.ones w) (frI (ixL b.ones w) p.one) = p.one := congrArg Pa.one (to_fr h hw hp).2.2
    have e2 : toI (ixL b.ones w) (frI (ixL b.ones w) q.one) = q.one := congrArg Pa.one (to_fr h hw hq).2.2
    rw [← e1, ← e2, e]
  · have e1 : toI (ixL b.others w) (frI (ixL b.others w) p.other) = p.other := congrArg Pa.other (to_fr h hw hp).2.2
    have e2 : toI (ixL b.others w) (frI (ixL b.others w) q.other) = q.other := congrArg Pa.other (to_fr h hw hq).2.2
    rw [← e1, ← e2, e]
theorem map_to_fr {b : FB} {w : Int} {t : List Pa} (h : UM b t) (hw : ∀ p ∈ t, whP b p = w) : (t.map (frP b w)).map (toP b w) = t := by
  rw [List.map_map]
  conv => rhs; rw [← List.map_id t]
  exact List.map_congr_left fun p hp => (to_fr h hw hp).2.2

/-- Two matchings of different persons together. -/
theorem um_app {b : FB} {s t : List Pa} (hs : UM b s) (ht : UM b t) (hd : ∀ p ∈ s, ∀ q ∈ t, whP b p ≠ whP b q) : UM b (s ++ t) := by
  refine ⟨fun p hp => ?_, ?_, ?_⟩
  · rcases List.mem_append.1 hp with hp | hp
    · exact hs.p p hp
    · exact ht.p p hp
  · rw [List.pairwise_append]
    refine ⟨hs.o, ht.o, fun p hp q hq e => hd p hp q hq ?_⟩
    unfold whP
    rw [e]
  · rw [List.pairwise_append]
    refine ⟨hs.d, ht.d, fun p hp q hq e => hd p hp q hq ?_⟩
    rw [← wh_oth hs hp, ← wh_oth ht hq, e]
theorem filt_split (f : Pa → Bool) : ∀ t : List Pa, t.length = (t.filter f).length + (t.filter fun p => !f p).length
  | [] => rfl
  | p :: t => by
    have ih := filt_split f t
    cases h : f p <;> simp [h] <;> omega
def isW (b : FB) (w : Int) (p : Pa) : Bool := decide (whP b p = w)
def repM (b : FB) (w : Int) (t s : List Pa) : List Pa := (t.filter fun p => !isW b w p) ++ s.map (toP b w)
theorem um_rep {b : FB} {w : Int} {t s : List Pa} (ht : UM b t) (hs : UM (ofB b w) s) : UM b (repM b w t s) := by
  obtain ⟨h1, h2⟩ := um_to hs
  refine um_app (um_filter ht _) h1 fun p hp q hq e => ?_
  have h3 := (List.mem_filter.1 hp).2
  rw [h2 q hq] at e
  unfold isW at h3
  rw [decide_eq_true e] at h3
  cases h3
theorem rep_len (b : FB) (w : Int) (t s : List Pa) : (repM b w t s).length = (t.filter fun p => !isW b w p).length + s.length := by
  unfold repM
  rw [List.length_append, List.length_map]
theorem um_part {b : FB} {w : Int} {t : List Pa} (ht : UM b t) : UM (ofB b w) ((t.filter (isW b w)).map (frP b w)) :=
  um_fr (um_filter ht _) fun p hp => of_decide_eq_true (List.mem_filter.1 hp).2
/-- A person's part of a largest matching is largest. -/
theorem part_most {b : FB} {t : List Pa} (ht : UM b t) (hl : t.length = (fstM b).length) (w : Int) : (t.filter (isW b w)).length = (fstM (ofB b w)).length := by
  have h1 := um_le (um_part (w := w) ht)
  rw [List.length_map] at h1
  have h2 := um_le (um_rep ht (gm_um (fst_gm (ofB b w))))
  rw [rep_len] at h2
  have h3 := filt_split (isW b w) t
  omega

/-! How many fines: the sum over all persons. -/
def mSm (b : FB) : Nat → Nat
  | 0 => 0
  | k + 1 => mSm b k + (fstM (ofB b (k : Nat))).length
theorem mSm_eq {b : FB} {t : List Pa} (ht : UM b t) (hl : t.length = (fstM b).length) : ∀ k : Nat, (t.filter fun p => decide (0 ≤ whP b p ∧ whP b p < (k : Int))).length = mSm b k
  | 0 => by
    unfold mSm
    rw [List.length_eq_zero_iff, List.filter_eq_nil_iff]
    intro p _
    rw [decide_eq_true_eq]
    omega
  | k + 1 => by
    unfold mSm
    rw [← mSm_eq ht hl k, ← part_most ht hl]
    have h := filt_split (fun p => decide (whP b p < (k : Int))) (t.filter fun p => decide (0 ≤ whP b p ∧ whP b p < ((k + 1 : Nat) : Int)))
    rw [h, List.filter_filter, List.filter_filter]
    congr 2
    · refine List.filter_congr fun p _ => ?_
      rw [← Bool.decide_and]
      apply decide_eq_decide.2
      omega
    · refine List.filter_congr fun p _ => ?_
      unfold isW
      rw [← decide_not, ← Bool.decide_and]
      apply decide_eq_decide.2
      omega
def cSm (l : List En) : Nat → Nat
  | 0 => 0
  | k + 1 => cSm l k + (minL l (k : Nat)).length
theorem filt_splitE (f : En → Bool) : ∀ t : List En, t.length = (t.filter f).length + (t.filter fun p => !f p).length
  | [] => rfl
  | p :: t => by
    have ih := filt_splitE f t
    cases h : f p <;> simp [h] <;> omega
theorem cSm_eq (l : List En) : ∀ k : Nat, (l.filter fun e => decide (0 ≤ e.who ∧ e.who < (k : Int))).length = cSm l k
  | 0 => by
    unfold cSm
    rw [List.length_eq_zero_iff, List.filter_eq_nil_iff]
    intro p _
    rw [decide_eq_true_eq]
    omega
  | k + 1 => by
    unfold cSm minL
    rw [← cSm_eq l k]
    have h := filt_splitE (fun e => decide (e.who < (k : Int))) (l.filter fun e => decide (0 ≤ e.who ∧ e.who < ((k + 1 : Nat) : Int)))
    rw [h, List.filter_filter, List.filter_filter]
    congr 2
    · refine List.filter_congr fun p _ => ?_
      rw [← Bool.decide_and]
      apply decide_eq_decide.2
      omega
    · refine List.filter_congr fun p _ => ?_
      rw [← decide_not, ← Bool.decide_and]
      apply decide_eq_decide.2
      omega
def fSm (b : FB) : Nat → Int
  | 0 => 0
  | k + 1 => fSm b k + fewI (ofB b (k : Nat))
theorem fSm_eq (b : FB) : ∀ k, fSm b k = (cSm b.ones k : Int) + cSm b.others k - mSm b k
  | 0 => rfl
  | k + 1 => by
    unfold fSm cSm mSm
    rw [fSm_eq b k]
    unfold fewI
    show _ + (((minL b.ones (k : Nat)).length : Int) + (minL b.others (k : Nat)).length - _) = _
    omega
theorem few_sum {b : FB} (hv : VF b) {P : Nat} (hP : b.persons = P) : fewI b = fSm b P := by
  rw [fSm_eq, ← cSm_eq, ← cSm_eq, ← mSm_eq (gm_um (fst_gm b)) rfl]
  have h1 : (b.ones.filter fun e => decide (0 ≤ e.who ∧ e.who < (P : Int))) = b.ones := List.filter_eq_self.2 fun e he => decide_eq_true (by have := (hv.e1 e he).w; omega)
  have h2 : (b.others.filter fun e => decide (0 ≤ e.who ∧ e.who < (P : Int))) = b.others := List.filter_eq_self.2 fun e he => decide_eq_true (by have := (hv.e2 e he).w; omega)
  have h3 : ((fstM b).filter fun p => decide (0 ≤ whP b p ∧ whP b p < (P : Int))) = fstM b := List.filter_eq_self.2 fun p hp => decide_eq_true (by
    have h4 := ((fst_gm b).p p hp).1
    have := (one_v hv (i := p.one.toNat) (by omega)).w
    unfold whP
    omega)
  rw [h1, h2, h3]
  rfl

end Go.Proofs.Ytemnojaoickjfaa


/- FinesPersons. -/
set_option linter.unusedSimpArgs false
set_option linter.unusedVariables false
set_option linter.unnecessarySimpa false
namespace Go.Proofs.Ytemnojaoickjfaa
open Go Go.V

def lN (h : Nat → Sp) : List Nat → Sp
  | [] => zS
  | i :: r => addS (h i) (lN h r)
theorem lN_app (h : Nat → Sp) : ∀ (l r : List Nat), lN h (l ++ r) = addS (lN h l) (lN h r)
  | [], r => (z_addS _).symm
  | p :: l, r => by
    show addS (h p) (lN h (l ++ r)) = _
    rw [lN_app h l r, ← addS_assoc]
    rfl
theorem sS_filter (P : Nat → Bool) (h : Nat → Sp) : ∀ n, sS (fun i => if P i = true then h i else zS) n = lN h ((List.range n).filter P)
  | 0 => rfl
  | n + 1 => by
    unfold sS
    rw [sS_filter P h n, List.range_succ, List.filter_append, lN_app]
    cases hp : P n with
    | true => simp [hp, lN, addS_z]
    | false => simp [hp, lN, addS_z]
theorem lN_take (h : Nat → Sp) (l : List Nat) : ∀ k, k ≤ l.length → sS (fun i => h (l[i]?.getD 0)) k = lN h (l.take k)
  | 0, _ => by simp [sS, lN]
  | k + 1, hk => by
    unfold sS
    rw [lN_take h l k (by omega), List.take_add_one, List.getElem?_eq_getElem (by omega), lN_app]
    simp [lN, addS_z]
theorem lN_get (h : Nat → Sp) (l : List Nat) : sS (fun i => h (l[i]?.getD 0)) l.length = lN h l := by
  rw [lN_take h l _ (Nat.le_refl _), List.take_length]
theorem lS_filt (F : Pa → Sp) (f : Pa → Bool) : ∀ t : List Pa, (∀ p ∈ t, f p = false → F p = zS) → lS F (t.filter f) = lS F t
  | [], _ => rfl
  | p :: t, h => by
    have ih := lS_filt F f t fun q hq => h q (by simp [hq])
    cases hf : f p with
    | true =>
      rw [List.filter_cons, hf, if_pos rfl]
      show addS (F p) (lS F (t.filter f)) = addS (F p) (lS F t)
      rw [ih]
    | false =>
      rw [List.filter_cons, hf]
      show lS F (t.filter f) = addS (F p) (lS F t)
      rw [ih, h p (by simp) hf, z_addS]

/-- What a person owes by a matching is what they owe by their part of it. -/
theorem ow_part {b : FB} {w : Int} {t s : List Pa} (ht : UM b t) (hs : UM (ofB b w) s) (hts : t.filter (isW b w) = s.map (toP b w)) : owC b t w = owC (ofB b w) s w := by
  have l1 : (ofB b w).ones.length = (ixL b.ones w).length := ix_len _ _
  have l2 : (ofB b w).others.length = (ixL b.others w).length := ix_len _ _
  have hmem : ∀ p, p ∈ t → whP b p = w → ∃ q ∈ s, p = toP b w q := fun p hp hw => by
    have : p ∈ t.filter (isW b w) := List.mem_filter.2 ⟨hp, decide_eq_true hw⟩
    rw [hts] at this
    obtain ⟨q, hq, e⟩ := List.mem_map.1 this
    exact ⟨q, hq, e.symm⟩
  have hmem2 : ∀ q ∈ s, toP b w q ∈ t := fun q hq => by
    have : toP b w q ∈ t.filter (isW b w) := by rw [hts]; exact List.mem_map.2 ⟨q, hq, rfl⟩
    exact (List.mem_filter.1 this).1
  unfold owC
  have e1 : lS (prF b w) t = lS (prF (ofB b w) w) s := by
    rw [← lS_filt (prF b w) (isW b w) t fun p _ hf => by
      have hf2 : ¬ (one b p.one.toNat).who = w := of_decide_eq_false hf
      unfold prF
      rw [if_neg hf2], hts, lS_map]
    refine lS_congr fun p hp => ?_
    obtain ⟨h1, h2, h3⟩ := hs.p p hp
    unfold prF toP
    dsimp only
    rw [(one_to h1.1 h1.2).1, (oth_to h2.1 h2.2).1]
    rfl
  have e2 : sS (onF b t w) b.ones.length = sS (onF (ofB b w) s w) (ofB b w).ones.length := by
    have a1 : sS (onF b t w) b.ones.length = sS (fun i => if decide ((one b i).who = w) = true then (if inO t i = false then endsL b.base (one b i).cord else zS) else zS) b.ones.length := sS_congr fun i _ => by
      unfold onF
      by_cases h1 : (one b i).who = w
      · rw [if_pos (decide_eq_true h1)]
        by_cases h2 : inO t i = false
        · rw [if_pos ⟨h1, h2⟩, if_pos h2]
        · rw [if_neg (fun x => h2 x.2), if_neg h2]
      · rw [if_neg (fun x => h1 x.1), if_neg (by rw [decide_eq_false h1]; exact Bool.false_ne_true)]
    rw [a1, sS_filter, l1]
    have a2 : ((List.range b.ones.length).filter fun i => decide ((one b i).who = w)) = ixL b.ones w := rfl
    rw [a2, ← lN_get]
    refine sS_congr fun k hk => ?_
    have hg : (ixL b.ones w)[k]?.getD 0 = (ixL b.ones w)[k] := by rw [List.getElem?_eq_getElem hk]; rfl
    have ho : one (ofB b w) k = one b ((ixL b.ones w)[k]) := minL_get hk
    have hw := (ix_mem.1 (List.getElem_mem hk)).2
    have hw2 : (one b ((ixL b.ones w)[k])).who = w := hw
    rw [hg]
    unfold onF
    rw [ho]
    have hin : inO s k = inO t ((ixL b.ones w)[k] : Nat) := by
      rw [Bool.eq_iff_iff]
      unfold inO
      simp only [List.any_eq_true, decide_eq_true_eq]
      constructor
      · rintro ⟨q, hq, e⟩
        refine ⟨toP b w q, hmem2 q hq, ?_⟩
        show toI (ixL b.ones w) q.one = _
        rw [e]
        unfold toI
        rw [Int.toNat_natCast, hg]
      · rintro ⟨p, hp, e⟩
        have hpw : whP b p = w := by unfold whP; rw [e, Int.toNat_natCast]; exact hw2
        obtain ⟨q, hq, rfl⟩ := hmem p hp hpw
        refine ⟨q, hq, ?_⟩
        have h1 := (hs.p q hq).1
        have e' : toI (ixL b.ones w) q.one = toI (ixL b.ones w) (k : Nat) := by
          have e3 : toI (ixL b.ones w) q.one = ((ixL b.ones w)[k] : Nat) := e
          rw [e3]
          unfold toI
          rw [Int.toNat_natCast, hg]
        exact toI_inj (ix_nd _ _) (by rw [← l1]; exact h1) (by omega) e'
    rw [hin]
    by_cases h2 : inO t ((ixL b.ones w)[k] : Nat) = false
    · rw [if_pos h2, if_pos ⟨hw2, h2⟩]
    · rw [if_neg h2, if_neg (fun x => h2 x.2)]
  have e3 : sS (otF b t w) b.others.length = sS (otF (ofB b w) s w) (ofB b w).others.length := by
    have a1 : sS (otF b t w) b.others.length = sS (fun i => if decide ((oth b i).who = w) = true then (if inT t i = false then endsL b.base (oth b i).cord else zS) else zS) b.others.length := sS_congr fun i _ => by
      unfold otF
      by_cases h1 : (oth b i).who = w
      · rw [if_pos (decide_eq_true h1)]
        by_cases h2 : inT t i = false
        · rw [if_pos ⟨h1, h2⟩, if_pos h2]
        · rw [if_neg (fun x => h2 x.2), if_neg h2]
      · rw [if_neg (fun x => h1 x.1), if_neg (by rw [decide_eq_false h1]; exact Bool.false_ne_true)]
    rw [a1, sS_filter, l2]
    have a2 : ((List.range b.others.length).filter fun i => decide ((oth b i).who = w)) = ixL b.others w := rfl
    rw [a2, ← lN_get]
    refine sS_congr fun k hk => ?_
    have hg : (ixL b.others w)[k]?.getD 0 = (ixL b.others w)[k] := by rw [List.getElem?_eq_getElem hk]; rfl
    have ho : oth (ofB b w) k = oth b ((ixL b.others w)[k]) := minL_get hk
    have hw := (ix_mem.1 (List.getElem_mem hk)).2
    have hw2 : (oth b ((ixL b.others w)[k])).who = w := hw
    rw [hg]
    unfold otF
    rw [ho]
    have hin : inT s k = inT t ((ixL b.others w)[k] : Nat) := by
      rw [Bool.eq_iff_iff]
      unfold inT
      simp only [List.any_eq_true, decide_eq_true_eq]
      constructor
      · rintro ⟨q, hq, e⟩
        refine ⟨toP b w q, hmem2 q hq, ?_⟩
        show toI (ixL b.others w) q.other = _
        rw [e]
        unfold toI
        rw [Int.toNat_natCast, hg]
      · rintro ⟨p, hp, e⟩
        have hpw : whP b p = w := by rw [← wh_oth ht hp, e, Int.toNat_natCast]; exact hw2
        obtain ⟨q, hq, rfl⟩ := hmem p hp hpw
        refine ⟨q, hq, ?_⟩
        have h1 := (hs.p q hq).2.1
        have e' : toI (ixL b.others w) q.other = toI (ixL b.others w) (k : Nat) := by
          have e3 : toI (ixL b.others w) q.other = ((ixL b.others w)[k] : Nat) := e
          rw [e3]
          unfold toI
          rw [Int.toNat_natCast, hg]
        exact toI_inj (ix_nd _ _) (by rw [← l2]; exact h1) (by omega) e'
    rw [hin]
    by_cases h2 : inT t ((ixL b.others w)[k] : Nat) = false
    · rw [if_pos h2, if_pos ⟨hw2, h2⟩]
    · rw [if_neg h2, if_neg (fun x => h2 x.2)]
  rw [e1, e2, e3]
theorem inO_perm {t s : List Pa} (h : t.Perm s) (i : Int) : inO t i = inO s i := by
  rw [Bool.eq_iff_iff]
  unfold inO
  simp only [List.any_eq_true, decide_eq_true_eq, h.mem_iff]
theorem inT_perm {t s : List Pa} (h : t.Perm s) (i : Int) : inT t i = inT s i := by
  rw [Bool.eq_iff_iff]
  unfold inT
  simp only [List.any_eq_true, decide_eq_true_eq, h.mem_iff]
theorem ow_perm (b : FB) {t s : List Pa} (h : t.Perm s) (who : Int) : owC b t who = owC b s who := by
  unfold owC
  rw [lS_perm _ h]
  congr 1
  congr 1
  · exact sS_congr fun i _ => by unfold onF; rw [inO_perm h]
  · exact sS_congr fun i _ => by unfold otF; rw [inT_perm h]
theorem rg_part (b : FB) (w : Int) : rgK b w (lrgL b) (lrgL b).length = rgK (ofB b w) w (lrgL (ofB b w)) (lrgL (ofB b w)).length := by
  refine rg_same (fun t ht => ?_) fun s hs => ?_
  · have h1 := lrg_iff.1 ht
    have hu := gm_um h1.1
    have hp := um_part (w := w) hu
    have hl : srtM ((t.filter (isW b w)).map (frP b w)) ∈ lrgL (ofB b w) := lrg_iff.2 ⟨um_gm hp, by
      rw [(srt_perm _).length_eq, List.length_map, part_most hu h1.2]⟩
    refine ⟨_, hl, ?_⟩
    rw [ow_eq (lrg_iff.1 hl).1, ow_eq h1.1, ow_perm _ (srt_perm _)]
    exact (ow_part hu hp (map_to_fr (um_filter hu _) fun p hp => of_decide_eq_true (List.mem_filter.1 hp).2).symm).symm
  · have h1 := lrg_iff.1 hs
    have hu := gm_um h1.1
    have hf := gm_um (fst_gm b)
    have hr := um_rep hf hu
    have hpm := part_most hf rfl w
    have hsp := filt_split (isW b w) (fstM b)
    have hl : srtM (repM b w (fstM b) s) ∈ lrgL b := lrg_iff.2 ⟨um_gm hr, by
      rw [(srt_perm _).length_eq, rep_len, h1.2]
      omega⟩
    refine ⟨_, hl, ?_⟩
    rw [ow_eq (lrg_iff.1 hl).1, ow_eq h1.1, ow_perm _ (srt_perm _)]
    refine ow_part hr hu ?_
    unfold repM
    rw [List.filter_append, List.filter_filter]
    have e1 : ((fstM b).filter fun a => isW b w a && !isW b w a) = [] := by
      rw [List.filter_eq_nil_iff]
      intro p _
      cases isW b w p <;> simp
    have e2 : (s.map (toP b w)).filter (isW b w) = s.map (toP b w) := List.filter_eq_self.2 fun p hp => decide_eq_true ((um_to hu).2 p hp)
    rw [e1, e2, List.nil_append]

theorem c69 (l : List En) (w : Int) (hs : SmE l) : Ctr Try.prog 69 [ES l, .int w] (ES (minL l w)) := by
  refine ctr_of_wp hmix Try.func69 m69 rfl ?_
  unfold v69
  have hn := hs.n
  obtain ⟨K, hK⟩ : ∃ K : Nat → List En, ∀ k, K k = (l.take k).filter fun e => decide (e.who = w) := ⟨_, fun _ => rfl⟩
  have hKn : minL l w = K l.length := by rw [hK, List.take_length]; rfl
  have hK0 : K 0 = [] := by rw [hK]; rfl
  have hKs : ∀ k, k < l.length → K (k + 1) = K k ++ (if (l[k]?.getD default).who = w then [l[k]?.getD default] else []) := fun k hk => by
    rw [hK, hK, List.take_add_one, List.filter_append, List.getElem?_eq_getElem hk]
    congr 1
    by_cases e : (l[k]).who = w <;> simp [e]
  have hKl : ∀ k, (K k).length ≤ l.length := fun k => by
    rw [hK]
    refine Nat.le_trans (List.length_filter_le _ _) ?_
    rw [List.length_take]
    omega
  rw [hKn]
  simp -failIfUnchanged (disch := first | omega | (simp <;> omega) | fail) only [go_sem, simprocAttr]
  refine wp_loop' Nat (fun k => ⟨[(0, ES l), (1, .int w), (5, .sl 3 ((K k).map EN) (.own 5)), (6, .int k)], [], [(5, (K k).length)], none⟩) (fun k => k ≤ l.length) (fun k => l.length - k) 0 (by simp) (by simp -failIfUnchanged (disch := first | omega | (simp <;> omega) | fail) only [go_sem, simprocAttr]; simp [hK0]) ?_
  intro k hk
  have hk : k ≤ l.length := hk
  have hkl := hKl k
  simp -failIfUnchanged (disch := first | omega | (simp <;> omega) | fail) only [go_sem, simprocAttr]
  refine wcond_dec (fun h => ?_) (fun h => ?_)
  · have hlt : k < l.length := by omega
    have hks := hKs k hlt
    obtain ⟨x, hx⟩ : ∃ x, l[k]?.getD default = x := ⟨_, rfl⟩
    rw [hx] at hks
    simp -failIfUnchanged (disch := first | omega | (simp <;> omega) | fail) only [go_sem, simprocAttr, hx]
    refine wcond_dec (fun h2 => ?_) (fun h2 => ?_)
    · rw [if_pos h2] at hks
      simp -failIfUnchanged (disch := first | omega | (simp <;> omega) | fail) only [go_sem, simprocAttr, hx]
      refine ⟨k + 1, by dsimp only; omega, by dsimp only; omega, ?_⟩
      dsimp only
      rw [hks]
      simp -failIfUnchanged (disch := first | omega | (simp <;> omega) | fail) only [go_sem, simprocAttr]
      try simp
    · rw [if_neg h2, List.append_nil] at hks
      simp -failIfUnchanged (disch := first | omega | (simp <;> omega) | fail) only [go_sem, simprocAttr]
      refine ⟨k + 1, by dsimp only; omega, by dsimp only; omega, ?_⟩
      dsimp only
      rw [hks]
      simp -failIfUnchanged (disch := first | omega | (simp <;> omega) | fail) only [go_sem, simprocAttr]
      try simp
  · have e : k = l.length := by omega
    subst e
    simp -failIfUnchanged (disch := first | omega | (simp <;> omega) | fail) only [go_sem, simprocAttr]
    try simp
theorem c24 (b : FB) (hs : SmF b) (w : Int) : Ctr Try.prog 24 [FK b, .int w] (FK (ofB b w)) := by
  refine ctr_of_wp hmix Try.func24 m24 rfl ?_
  unfold v24
  simp -failIfUnchanged (disch := first | omega | (simp <;> omega) | fail) only [go_sem, simprocAttr]
  refine wcall (c16 b hs) ?_
  simp -failIfUnchanged (disch := first | omega | (simp <;> omega) | fail) only [go_sem, simprocAttr]
  refine wcall (c69 _ w hs.ones) ?_
  simp -failIfUnchanged (disch := first | omega | (simp <;> omega) | fail) only [go_sem, simprocAttr]
  refine wcall (c69 _ w hs.others) ?_
  simp -failIfUnchanged (disch := first | omega | (simp <;> omega) | fail) only [go_sem, simprocAttr]
  try simp
theorem few_10 {b : FB} (hv : VF b) : 0 ≤ fewI b ∧ fewI b ≤ 10 := by
  have := fst_ones b
  have := hv.n1
  have := hv.n2
  unfold fewI
  omega
theorem fSm_bd {b : FB} (hv : VF b) : ∀ k : Nat, 0 ≤ fSm b k ∧ fSm b k ≤ 10 * k
  | 0 => by simp [fSm]
  | k + 1 => by
    have h1 := fSm_bd hv k
    have h2 := few_10 (vf_of2 hv (k : Nat))
    unfold fSm
    omega

set_option maxRecDepth 10000 in
theorem c4 (b : FB) : Ctr Try.prog 4 [FK b] (.bool true) := by
  refine ctr_of_wp hmix Try.func4 m4 rfl ?_
  unfold v4
  simp -failIfUnchanged (disch := first | omega | (simp <;> omega) | fail) only [go_sem, simprocAttr]
  refine wcall (c22 b) ?_
  cases hr : rdyF b with
  | false =>
    simp -failIfUnchanged (disch := first | omega | (simp <;> omega) | fail) only [go_sem, simprocAttr]
    refine wcall c15 ?_
    simp -failIfUnchanged (disch := first | omega | (simp <;> omega) | fail) only [go_sem, simprocAttr]
  | true =>
    obtain ⟨hs, hc, hv⟩ := rdy_of hr
    have k23 := c23 b hs hc
    have hf := few_10 hv
    have hpe := hv.pe
    have hsum := few_sum hv (P := b.persons.toNat) (by omega)
    obtain ⟨F, hF⟩ : ∃ F, fewI b = F := ⟨_, rfl⟩
    rw [hF] at k23 hf hsum
    have d0 : decide (¬ (0 : Int) = 0) = false := rfl
    simp -failIfUnchanged (disch := first | omega | (simp <;> omega) | fail) only [go_sem, simprocAttr]
    refine wcall k23 ?_
    simp -failIfUnchanged (disch := first | omega | (simp <;> omega) | fail) only [go_sem, simprocAttr]
    refine wp_loop' Nat (fun k => ⟨[(1, .ptr 1 0), (3, .int (F - fSm b k)), (5, .int k)], [(1, ⟨FKc b, false⟩)], [], none⟩) (fun k => (k : Int) ≤ b.persons) (fun k => (b.persons - k).toNat) 0 (by show ((0 : Nat) : Int) ≤ b.persons; omega) (by simp -failIfUnchanged (disch := first | omega | (simp <;> omega) | fail) only [go_sem, simprocAttr]; simp [fSm]) ?_
    intro k hk
    have hk : (k : Int) ≤ b.persons := hk
    simp -failIfUnchanged (disch := first | omega | (simp <;> omega) | fail) only [go_sem, simprocAttr]
    refine wcond_dec (fun h => ?_) (fun h => ?_)
    · have hoe : owE b k = 0 := ask_ok hc (by
        unfold within
        apply decide_eq_true
        rw [w64_id (by omega)]
        omega)
      have hoe2 : owE (ofB b (k : Nat)) k = 0 := ask_ok (chk_ofB hc _) (by
        unfold within
        apply decide_eq_true
        show 0 ≤ (k : Int) ∧ (k : Int) ≤ w64 (b.persons - 1)
        rw [w64_id (by omega)]
        omega)
      have a1 := c24 b hs (k : Nat)
      have a2 := c23 (ofB b (k : Nat)) (sm_of2 hs _) (chk_ofB hc _)
      have a3 := c25 b hs k
      have a4 := c25 (ofB b (k : Nat)) (sm_of2 hs _) k
      unfold owdR at a3 a4
      rw [hoe, if_pos rfl] at a3
      rw [hoe2, if_pos rfl, ← rg_part] at a4
      have hst : fSm b (k + 1) = fSm b k + fewI (ofB b (k : Nat)) := rfl
      have hb1 := fSm_bd hv k
      have hb2 := few_10 (vf_of2 hv (k : Nat))
      generalize fewI (ofB b (k : Nat)) = G at *
      generalize rgK b k (lrgL b) (lrgL b).length = R at *
      have d2 : decide (¬ (R.lo = R.lo ∧ R.hi = R.hi)) = false := decide_eq_false (by simp)
      unfold FK at a1 a2 a4
      simp -failIfUnchanged (disch := first | omega | (simp <;> omega) | fail) only [go_sem, simprocAttr]
      refine wcall a1 ?_
      simp -failIfUnchanged (disch := first | omega | (simp <;> omega) | fail) only [go_sem, simprocAttr]
      refine wcall a2 ?_
      simp -failIfUnchanged (disch := first | omega | (simp <;> omega) | fail) only [go_sem, simprocAttr]
      refine wcall a3 ?_
      simp -failIfUnchanged (disch := first | omega | (simp <;> omega) | fail) only [go_sem, simprocAttr]
      refine wcall a4 ?_
      simp -failIfUnchanged (disch := first | omega | (simp <;> omega) | fail) only [go_sem, simprocAttr, d0, d2]
      refine ⟨k + 1, by dsimp only; omega, by dsimp only; omega, ?_⟩
      dsimp only
      rw [hst]
      simp -failIfUnchanged (disch := first | omega | (simp <;> omega) | fail) only [go_sem, simprocAttr]
      simp
      omega
    · have e : k = b.persons.toNat := by omega
      have e2 : decide (F - fSm b k = 0) = true := decide_eq_true (by rw [e, ← hsum]; omega)
      simp -failIfUnchanged (disch := first | omega | (simp <;> omega) | fail) only [go_sem, simprocAttr, e2]
      refine wcall c15 ?_
      simp -failIfUnchanged (disch := first | omega | (simp <;> omega) | fail) only [go_sem, simprocAttr]

end Go.Proofs.Ytemnojaoickjfaa


/- FinesAlike, for books that are not too long. -/
set_option linter.unusedSimpArgs false
set_option linter.unusedVariables false
set_option linter.unnecessarySimpa false
namespace Go.Proofs.Ytemnojaoickjfaa
open Go Go.V

/-- Two books alike. -/
abbrev akB (b : FB) : FB := { b with others := b.ones }
def idM (n : Nat) : List Pa := (List.range n).map fun i : Nat => ⟨(i : Int), (i : Int)⟩
theorem comL_self (x : List Sp) : comL x x = x := by
  apply List.ext_getElem?
  intro i
  unfold comL comK
  rcases Nat.lt_or_ge i x.length with h | h
  · rw [List.getElem?_map, List.getElem?_range h, List.getElem?_eq_getElem h]
    simp [cmS, h]
  · rw [List.getElem?_eq_none (by simpa using h), List.getElem?_eq_none h]
theorem dayI_self (x : En) (h : 0 ≤ x.day ∧ x.day ≤ 99) : dayI x x = 0 := by
  unfold dayI
  rw [w64_id (by omega)]
  omega
theorem gm_id {b : FB} (hv : VF (akB b)) : GM (akB b) (akB b).ones.length (idM b.ones.length) := by
  refine ⟨fun p hp => ?_, ?_, ?_⟩
  · obtain ⟨i, hi, rfl⟩ := List.mem_map.1 hp
    have hi := List.mem_range.1 hi
    refine ⟨⟨by dsimp only; omega, by dsimp only; omega⟩, ⟨by dsimp only; omega, by dsimp only; omega⟩, ?_⟩
    dsimp only
    rw [Int.toNat_natCast]
    have hve := one_v hv (i := i) hi
    show comB b.late (one (akB b) i) (one (akB b) i) = true
    have hla := hv.la
    have hla' : 0 ≤ b.late := hla.1
    unfold comB
    rw [dayI_self _ hve.d, comL_self, decide_eq_true rfl, decide_eq_true hla']
    unfold fitB
    rw [Bool.true_and, Bool.true_and, List.all_eq_true]
    exact fun s hs => decide_eq_true (hve.c.s s hs).2.1
  · unfold idM
    rw [List.pairwise_map]
    exact List.pairwise_lt_range.imp fun {i j} h => by dsimp only; omega
  · unfold idM
    rw [List.pairwise_map]
    exact List.pairwise_lt_range.imp fun {i j} h => by dsimp only; omega
theorem id_lrg {b : FB} (hv : VF (akB b)) : idM b.ones.length ∈ lrgL (akB b) ∧ (fstM (akB b)).length = b.ones.length := by
  have hl : (idM b.ones.length).length = b.ones.length := by simp [idM]
  have h1 := most_le (gm_id hv)
  have h2 := fst_ones (akB b)
  have h2' : (fstM (akB b)).length ≤ b.ones.length := h2
  exact ⟨lrg_iff.2 ⟨gm_id hv, by omega⟩, by omega⟩
theorem few_ak {b : FB} (hv : VF (akB b)) : fewI (akB b) = b.ones.length := by
  unfold fewI
  rw [(id_lrg hv).2]
  show (b.ones.length : Int) + b.ones.length - b.ones.length = _
  omega
theorem ld_ak {b : FB} (hv : VF (akB b)) : ldK (akB b) (lrgL (akB b)) (lrgL (akB b)).length = 0 := by
  obtain ⟨h1, h2⟩ := ld_le hv (id_lrg hv).1
  have h3 : dsI (akB b) (idM b.ones.length) = 0 := by
    rw [ds_eq]
    have key : ∀ n, n ≤ b.ones.length → lI (dyF (akB b)) (idM n) = 0 := by
      intro n
      induction n with
      | zero => intro _; rfl
      | succ n ih =>
        intro hn
        have e : idM (n + 1) = idM n ++ [⟨(n : Int), (n : Int)⟩] := by unfold idM; rw [List.range_succ, List.map_append]; rfl
        rw [e, lI_app, ih (by omega)]
        have hve := one_v hv (i := n) hn
        have h4 : dyF (akB b) ⟨(n : Int), (n : Int)⟩ = 0 := dayI_self _ hve.d
        simp [lI, h4]
    exact key _ (Nat.le_refl _)
  omega
theorem aln_ak {b : FB} (hv : VF (akB b)) (n : Int) : alnL (akB b) n = [] := by
  have hL : (bokL (akB b) n).length = b.ones.length := by unfold bokL; split <;> rfl
  unfold alnL alnK
  rw [hL, List.map_eq_nil_iff, List.filter_eq_nil_iff]
  intro i hi
  have hi := List.mem_range.1 hi
  unfold alnP
  rw [Bool.not_eq_true, Bool.not_eq_false', List.any_eq_true]
  refine ⟨_, (id_lrg hv).1, ?_⟩
  unfold inB
  rw [List.any_eq_true]
  refine ⟨⟨(i : Int), (i : Int)⟩, List.mem_map.2 ⟨i, List.mem_range.2 hi, rfl⟩, ?_⟩
  unfold ofP
  exact decide_eq_true (by split <;> rfl)

set_option maxRecDepth 10000 in
theorem c5s (b : FB) (hcp : Ctr Try.prog 16 [FK b] (FK b)) (hce : Ctr Try.prog 26 [ES b.ones] (ES b.ones)) : Ctr Try.prog 5 [FK b] (.bool true) := by
  refine ctr_of_wp hmix Try.func5 m5 rfl ?_
  unfold v5
  have k22 := c22 (akB b)
  cases hr : rdyF (akB b) with
  | false =>
    rw [hr] at k22
    simp -failIfUnchanged (disch := first | omega | (simp <;> omega) | fail) only [go_sem, simprocAttr]
    refine wcall hcp ?_
    simp -failIfUnchanged (disch := first | omega | (simp <;> omega) | fail) only [go_sem, simprocAttr]
    refine wcall hce ?_
    simp -failIfUnchanged (disch := first | omega | (simp <;> omega) | fail) only [go_sem, simprocAttr]
    refine wcall k22 ?_
    simp -failIfUnchanged (disch := first | omega | (simp <;> omega) | fail) only [go_sem, simprocAttr]
    refine wcall c15 ?_
    simp -failIfUnchanged (disch := first | omega | (simp <;> omega) | fail) only [go_sem, simprocAttr]
  | true =>
    obtain ⟨hs, hc, hv⟩ := rdy_of hr
    have he : errF (akB b) = 0 := by unfold errF; rw [hc]; rfl
    have k23 := c23 (akB b) hs hc
    have k17 := c17 (akB b) hs
    have k27 := c27 (akB b) hs 0
    have k28 := c27 (akB b) hs 1
    unfold alnR at k27 k28
    rw [hr] at k22
    rw [few_ak hv] at k23
    rw [he, if_pos hc, ld_ak hv] at k17
    rw [show bkE (akB b) 0 = 0 from ask_ok hc rfl, if_pos rfl, aln_ak hv] at k27
    rw [show bkE (akB b) 1 = 0 from ask_ok hc rfl, if_pos rfl, aln_ak hv] at k28
    simp -failIfUnchanged (disch := first | omega | (simp <;> omega) | fail) only [go_sem, simprocAttr]
    refine wcall hcp ?_
    simp -failIfUnchanged (disch := first | omega | (simp <;> omega) | fail) only [go_sem, simprocAttr]
    refine wcall hce ?_
    simp -failIfUnchanged (disch := first | omega | (simp <;> omega) | fail) only [go_sem, simprocAttr]
    refine wcall k22 ?_
    simp -failIfUnchanged (disch := first | omega | (simp <;> omega) | fail) only [go_sem, simprocAttr]
    refine wcall k23 ?_
    simp -failIfUnchanged (disch := first | omega | (simp <;> omega) | fail) only [go_sem, simprocAttr]
    refine wcall k17 ?_
    simp -failIfUnchanged (disch := first | omega | (simp <;> omega) | fail) only [go_sem, simprocAttr]
    refine wcall k27 ?_
    simp -failIfUnchanged (disch := first | omega | (simp <;> omega) | fail) only [go_sem, simprocAttr]
    refine wcall k28 ?_
    simp -failIfUnchanged (disch := first | omega | (simp <;> omega) | fail) only [go_sem, simprocAttr, eq_self]
    refine wcall c15 ?_
    simp -failIfUnchanged (disch := first | omega | (simp <;> omega) | fail) only [go_sem, simprocAttr]

end Go.Proofs.Ytemnojaoickjfaa


/- Arguments of whatever size: how long their lists can be. -/
set_option linter.unusedSimpArgs false
set_option linter.unusedVariables false
set_option linter.unnecessarySimpa false
namespace Go.V
open Go Go.RowKit

mutual
/-- How many bytes a value of a type takes. -/
def TC.by : TC → Nat
  | .int => 8
  | .bool => 1
  | .st l => TC.bys l
  | .sl _ => 24
def TC.bys : List TC → Nat
  | [] => 0
  | c :: r => c.by + TC.bys r
end
section
variable {P : Program} {H : Type} {enc : TypeId × Value → H} {w : World} {spare : Nat → Bool} {held : Bool}
end
end Go.V

namespace Go.Proofs.Ytemnojaoickjfaa
open Go Go.V

/-- Lists of at most so many bytes. -/
structure BigE (R : Nat) (l : List En) : Prop where
  n : l.length * 40 ≤ R
  c : ∀ e ∈ l, e.cord.length * 16 ≤ R
end Go.Proofs.Ytemnojaoickjfaa


/- FinesAlike, for books of whatever size. -/
set_option linter.unusedSimpArgs false
set_option linter.unusedVariables false
set_option linter.unnecessarySimpa false
namespace Go.Proofs.Ytemnojaoickjfaa
open Go Go.V

theorem c26B (l : List En) (hs : BigE 140737488355328 l) : Ctr Try.prog 26 [ES l] (ES l) := by
  refine ctr_of_wp hmix Try.func26 m26f rfl ?_
  unfold v26f
  have hn := hs.n
  simp -failIfUnchanged (disch := first | omega | (simp <;> omega) | fail) only [go_sem, simprocAttr]
  refine wp_loop' Nat (fun i => ⟨[(0, ES l), (3, .sl 3 ((l.take i).map EN) (.own 3)), (4, .int i)], [], [(3, i)], none⟩) (fun i => i ≤ l.length) (fun i => l.length - i) 0 (by simp) (by simp -failIfUnchanged (disch := first | omega | (simp <;> omega) | fail) only [go_sem, simprocAttr]; try simp) ?_
  intro i hi
  have hi : i ≤ l.length := hi
  simp -failIfUnchanged (disch := first | omega | (simp <;> omega) | fail) only [go_sem, simprocAttr]
  refine wcond_dec (fun h => ?_) (fun h => ?_)
  · have hlt : i < l.length := by omega
    obtain ⟨e, he⟩ : ∃ e, l[i]?.getD default = e := ⟨_, rfl⟩
    have hc := hs.c e (by rw [← he]; exact mem_getD hlt)
    have hli : (l.take i).length = i := by simp; omega
    have hts : l.take (i + 1) = l.take i ++ [e] := by
      have e2 : l[i] = e := by rw [← he, List.getElem?_eq_getElem hlt]; rfl
      rw [List.take_add_one, List.getElem?_eq_getElem hlt, e2]; rfl
    generalize l.take i = K at *
    have f1 : fits (([] : List AV).length + (e.cord.map SP).length) 16 := ⟨by simp; omega, .inr (by simp; omega)⟩
    have f2 : fits ((K.map EN).length + [EN e].length) 40 := ⟨by simp; omega, .inr (by simp; omega)⟩
    simp -failIfUnchanged (disch := first | omega | (simp <;> omega) | fail) only [go_sem, simprocAttr, he, wapp_fullB (es := []) (fs := e.cord.map SP) f1, wapp_ownB (es := K.map EN) (fs := [EN e]) f2]
    refine ⟨hli.symm, i + 1, by dsimp only; omega, by dsimp only; omega, ?_⟩
    dsimp only
    rw [hts]
    simp -failIfUnchanged (disch := first | omega | (simp <;> omega) | fail) only [go_sem, simprocAttr]
    simp [hli]
  · have e : i = l.length := by omega
    subst e
    rw [List.take_length]
    simp -failIfUnchanged (disch := first | omega | (simp <;> omega) | fail) only [go_sem, simprocAttr]
    try simp

theorem c16B (b : FB) (h1 : BigE 140737488355328 b.ones) (h2 : BigE 140737488355328 b.others) : Ctr Try.prog 16 [FK b] (FK b) := by
  refine ctr_of_wp hmix Try.func16 m16 rfl ?_
  unfold v16
  simp -failIfUnchanged (disch := first | omega | (simp <;> omega) | fail) only [go_sem, simprocAttr]
  refine wcall (c26B _ h1) ?_
  simp -failIfUnchanged (disch := first | omega | (simp <;> omega) | fail) only [go_sem, simprocAttr]
  refine wcall (c26B _ h2) ?_
  simp -failIfUnchanged (disch := first | omega | (simp <;> omega) | fail) only [go_sem, simprocAttr]
  try simp

theorem c5 (b : FB) (h1 : BigE 140737488355328 b.ones) (h2 : BigE 140737488355328 b.others) : Ctr Try.prog 5 [FK b] (.bool true) :=
  c5s b (c16B b h1 h2) (c26B _ h1)

end Go.Proofs.Ytemnojaoickjfaa


/- A book in which one cluster is part of what it was: copies that are the caller's own. -/
set_option linter.unusedSimpArgs false
set_option linter.unusedVariables false
set_option linter.unnecessarySimpa false
namespace Go.Proofs.Ytemnojaoickjfaa
open Go Go.V

/-! The entries of a book that is only partly known. -/
set_option maxRecDepth 100000 in
theorem c39T (n : Int) (i : Nat) (hi : i = if n = 1 then 5 else 4) : CtrT Try.prog 39 i 6 [.int n] := by
  refine ⟨by kernel_rfl, fun C w a vs hk hone hC hr => ?_⟩
  obtain ⟨h1, h2⟩ := hr
  obtain ⟨v, rfl⟩ : ∃ v, vs = [v] := by
    match vs, h1 with
    | [v], _ => exact ⟨v, rfl⟩
  have h3 : Rep0 C w v (.int n) := h2 0 (.int n) rfl
  have h4 : v = .int .i64 n := by
    cases h3
    rfl
  subst h4
  obtain ⟨a⟩ := a
  match a, hk with
  | [x0, x1, x2, x3, x4, x5], _ =>
    have o0 := hone 0 (by omega)
    have o1 := hone 1 (by omega)
    have o2 := hone 2 (by omega)
    have o3 := hone 3 (by omega)
    have o4 := hone 4 (by omega)
    have o5 := hone 5 (by omega)
    by_cases hn : n = 1
    · rw [if_pos hn] at hi
      subst hi
      subst hn
      go_enter Try.func39, Try.ntmps39
      go_wp2
      go_ret
      exact ⟨rfl, Go.RowKit.Below.alloc (Go.RowKit.Below.refl _ _) (Nat.le_refl _) _⟩
    · rw [if_neg hn] at hi
      subst hi
      have e : (n == 1) = false := by simp [hn]
      go_enter Try.func39, Try.ntmps39
      go_wp2
      go_ret
      exact ⟨rfl, Go.RowKit.Below.alloc (Go.RowKit.Below.refl _ _) (Nat.le_refl _) _⟩

/-! Rows of cells. -/
theorem flat_len (l : List Sp) : (flat (l.map SP)).length = l.length * 2 := by
  rw [flat_length (sz := 2)]
  · simp
  · intro e he
    obtain ⟨s, _, rfl⟩ := List.mem_map.1 he
    rfl
theorem setAt_flat (l : List Sp) (p : Nat) (a c : Int) (h : p < l.length) : setAt (flat (l.map SP)) (p * 2) [.int a, .int c] = flat ((l.set p ⟨a, c⟩).map SP) := by
  induction l generalizing p with
  | nil => simp at h
  | cons s r ih =>
    cases p with
    | zero => rfl
    | succ p =>
      simp only [List.map_cons, flat, cells_agg, List.set_cons_succ]
      have := ih p (by simpa using h)
      rw [show (p + 1) * 2 = p * 2 + 1 + 1 by omega]
      simp only [List.cons_append, List.nil_append, setAt]
      rw [this]
theorem chunks_flat (l : List Sp) (pre : List AV) (k : Nat) (hk : k = l.length) : chunks true 2 (pre ++ flat (l.map SP)) pre.length k = l.map SP := by
  subst hk
  induction l generalizing pre with
  | nil => rfl
  | cons s r ih =>
    simp only [List.length_cons, chunks, List.map_cons, flat, cells_agg]
    congr 1
    · simp [chunk]
    · have := ih (pre ++ [.int s.lo, .int s.hi])
      simp only [List.append_assoc, List.length_append, List.length_cons, List.length_nil] at this
      exact this
theorem chunks_flat0 (l : List Sp) (k : Nat) (hk : k = l.length) : chunks true 2 (flat (l.map SP)) 0 k = l.map SP := chunks_flat l [] k hk
theorem map_tidy_flat (l : List Sp) (hp : HpL) : (flat (l.map SP)).map (tidy hp) = flat (l.map SP) := by
  induction l with
  | nil => rfl
  | cons s r ih => simp only [List.map_cons, flat, cells_agg, List.map_append, List.map_nil, tidy_int, ih]
theorem map_strip_flat (l : List Sp) (hp : HpL) : (flat (l.map SP)).map (strip hp) = flat (l.map SP) := by
  induction l with
  | nil => rfl
  | cons s r ih => simp only [List.map_cons, flat, cells_agg, List.map_append, List.map_nil, strip_int, ih]
theorem scopes_flat (l : List Sp) (τ : AS) : scopes τ (flat (l.map SP)) = True := by
  induction l with
  | nil => rfl
  | cons s r ih => simp only [List.map_cons, flat, cells_agg, List.cons_append, List.nil_append, scopes, inS_int, ih, and_self]
theorem bids_flat (l : List Sp) : bids (flat (l.map SP)) = [] := by
  induction l with
  | nil => rfl
  | cons s r ih => simp only [List.map_cons, flat, cells_agg, List.cons_append, List.nil_append, bids, bid_int, ih]

/-- The cells of the first i entries; for one cord stands g. -/
def celG (l : List En) (e : Nat) (g : AV) : Nat → List AV
  | 0 => []
  | i + 1 => celG l e g i ++ [.int (l[i]?.getD default).day, .int (l[i]?.getD default).who, if i = e then g else SS (l[i]?.getD default).cord]
theorem celG_len (l : List En) (e : Nat) (g : AV) : ∀ i, (celG l e g i).length = i * 3
  | 0 => rfl
  | i + 1 => by rw [celG, List.length_append, celG_len l e g i]; simp; omega
theorem celG_tidy (l : List En) (e : Nat) (g : AV) (hp : HpL) : ∀ i, (celG l e g i).map (tidy hp) = celG l e (tidy hp g) i
  | 0 => rfl
  | i + 1 => by
    rw [celG, celG, List.map_append, celG_tidy l e g hp i]
    by_cases h : i = e
    · simp [h, tidy_int]
    · simp [h, tidy_int, tidy_sl]
theorem celG_strip (l : List En) (e : Nat) (g : AV) (hp : HpL) : ∀ i, (celG l e g i).map (strip hp) = celG l e (strip hp g) i
  | 0 => rfl
  | i + 1 => by
    rw [celG, celG, List.map_append, celG_strip l e g hp i]
    by_cases h : i = e
    · simp [h, strip_int]
    · simp [h, strip_int, strip_sl]
theorem scopes_app (τ : AS) (x y : List AV) : scopes τ (x ++ y) = (scopes τ x ∧ scopes τ y) := by
  induction x with
  | nil => simp [scopes]
  | cons a r ih => simp only [List.cons_append, scopes, ih, and_assoc]
theorem celG_scA (l : List En) (e : Nat) (n : Int) (τ : AS) : ∀ i, scopes τ (celG l e (.int n) i) = True
  | 0 => rfl
  | i + 1 => by
    rw [celG, scopes_app, celG_scA l e n τ i]
    by_cases h : i = e <;> simp [h, scopes, inScope]
theorem celG_scB (l : List En) (e : Nat) (g : AV) (τ : AS) : ∀ i, e < i → scopes τ (celG l e g i) = inScope τ g
  | 0, h => by omega
  | i + 1, h => by
    rw [celG, scopes_app]
    by_cases h2 : i = e
    · have lo : ∀ j, j ≤ e → scopes τ (celG l e g j) = True := by
        intro j
        induction j with
        | zero => intro _; rfl
        | succ j ih =>
          intro hj
          rw [celG, scopes_app, ih (by omega), if_neg (by omega)]
          simp [scopes, inScope]
      rw [lo i (by omega), if_pos h2]
      simp [scopes, inScope]
    · rw [celG_scB l e g τ i (by omega), if_neg h2]
      simp [scopes, inScope]
theorem celG_lo (l : List En) (e : Nat) (g g' : AV) : ∀ i, i ≤ e → celG l e g i = celG l e g' i
  | 0, _ => rfl
  | i + 1, h => by rw [celG, celG, celG_lo l e g g' i (by omega), if_neg (by omega), if_neg (by omega)]
theorem celG_chunks (l l' : List En) (e : Nat) (he : e < l.length) (c : List Sp) (hl' : l' = l.set e { (l[e]?.getD default) with cord := c }) : ∀ i, i ≤ l.length → chunks true 3 (celG l e (SS c) i) 0 i = (l'.take i).map EN := by
  have key : ∀ (k : Nat) (cells : List AV) (r : List AV), (∀ j, j < k → True) → cells.length = k * 3 → chunks true 3 (cells ++ r) 0 k = chunks true 3 cells 0 k := by
    intro k cells r _ hc
    have gen : ∀ (n off : Nat), off + n * 3 ≤ cells.length → chunks true 3 (cells ++ r) off n = chunks true 3 cells off n := by
      intro n
      induction n with
      | zero => intro _ _; rfl
      | succ n ih =>
        intro off ho
        rw [chunks, chunks, ih (off + 3) (by omega)]
        congr 1
        simp only [chunk, if_true]
        congr 1
        rw [List.drop_append_of_le_length (by omega), List.take_append_of_le_length (by simp; omega)]
    exact gen k 0 (by omega)
  have snoc : ∀ (n off : Nat) (cells : List AV), chunks true 3 cells off (n + 1) = chunks true 3 cells off n ++ [chunk true 3 cells (off + n * 3)] := by
    intro n
    induction n with
    | zero => intro off cells; rw [chunks, chunks, chunks]; simp
    | succ n ih =>
      intro off cells
      rw [chunks, ih (off + 3) cells, chunks, List.cons_append]
      congr 2
      rw [show off + 3 + n * 3 = off + (n + 1) * 3 by omega]
  intro i
  induction i with
  | zero => intro _; rfl
  | succ i ih =>
    intro hi
    have hlt : i < l'.length := by rw [hl', List.length_set]; omega
    rw [snoc, celG, key i _ _ (fun _ _ => trivial) (celG_len l e _ i), ih (by omega), List.take_add_one, List.getElem?_eq_getElem hlt, List.map_append]
    congr 1
    simp only [chunk, if_true, Nat.zero_add, Option.toList_some, List.map_cons, List.map_nil]
    rw [List.drop_append_of_le_length (by rw [celG_len]; omega), List.drop_eq_nil_of_le (by rw [celG_len]; omega), List.nil_append]
    congr 2
    subst hl'
    rw [List.getElem_set]
    by_cases h : e = i
    · subst h
      simp
    · rw [if_neg h, if_neg (fun x => h x.symm), List.getElem?_eq_getElem (by omega)]
      rfl

abbrev rwG (l : List En) (e : Nat) : AV := .gsl 1 e 0 2 (l[e]?.getD default).cord.length true
def bsE (l : List En) (e : Nat) : List (Nat × Nat × BX) := [(77, l.length, ⟨celG l e (rwG l e) l.length, false⟩), (e, 0, ⟨flat ((l[e]?.getD default).cord.map SP), false⟩)]

attribute [go_sem] flat_len map_tidy_flat map_strip_flat scopes_flat bids_flat celG_len celG_tidy celG_strip celG_scA celG_scB

/-- The states of the copying loop. -/
def stE (l : List En) (e i : Nat) : AS :=
  if e < i then ⟨[(0, ES l), (3, .gsl 1 77 i 3 i true), (4, .int i)], [(K 1 77 i, ⟨celG l e (rwG l e) i, false⟩), (K 1 e 0, ⟨flat ((l[e]?.getD default).cord.map SP), false⟩)], [], none⟩
  else ⟨[(0, ES l), (3, .gsl 1 77 i 3 i true), (4, .int i)], [(K 1 77 i, ⟨celG l e (.int 0) i, false⟩)], [], none⟩

theorem c26S (l : List En) (hs : SmE l) (h5 : l.length ≤ 5) (e : Nat) (he : e < l.length) : CtrS Try.prog 26 [ES l] (.gsl 1 77 l.length 3 l.length true) (gsB 1 (bsE l e)) := by
  refine ctrS_of_csem (rd := false) ?_
  refine csem_of_wp hmix Try.func26 m26s rfl rfl ?_
  unfold v26s
  have h0 : ¬ e < 0 := by omega
  simp -failIfUnchanged (disch := first | omega | (simp <;> omega) | fail) only [go_sem, simprocAttr]
  refine wp_loop' Nat (stE l e) (fun i => i ≤ l.length) (fun i => l.length - i) 0 (by simp) (by rw [stE, if_neg h0]; simp -failIfUnchanged (disch := first | omega | (simp <;> omega) | fail) only [go_sem, simprocAttr]; simp [celG, leV]) ?_
  intro i hi
  have hi : i ≤ l.length := hi
  obtain ⟨x, hx⟩ : ∃ x, l[i]?.getD default = x := ⟨_, rfl⟩
  have a1 : (77 = i) = False := eq_false (by omega)
  have a2 : (i = 77) = False := eq_false (by omega)
  have a3 : (77 = e) = False := eq_false (by omega)
  have a4 : (e = 77) = False := eq_false (by omega)
  rcases Nat.lt_trichotomy i e with hie | hie | hie
  · -- ahead of it
    have a5 : (i = e) = False := eq_false (by omega)
    have a6 : (e = i) = False := eq_false (by omega)
    rw [stE, if_neg (by omega)]
    have hlt : i < l.length := by omega
    have hc := hs.c x (by rw [← hx]; exact mem_getD hlt)
    simp -failIfUnchanged (disch := first | omega | (simp <;> omega) | fail) only [go_sem, simprocAttr]
    refine wcond_dec (fun h => ?_) (fun h => ?_)
    · simp -failIfUnchanged (disch := first | omega | (simp <;> omega) | fail) only [go_sem, simprocAttr, hx, a1, a2, a3, a4, a5, a6, false_and, and_false, if_false]
      refine wopsN [K 1 i 0] ?_
      simp -failIfUnchanged (disch := first | omega | (simp <;> omega) | fail) only [go_sem, simprocAttr, hx, a1, a2, a3, a4, a5, a6, false_and, and_false, if_false, chunks_flat0]
      refine ⟨i + 1, by dsimp only; omega, by dsimp only; omega, ?_⟩
      rw [stE, if_neg (show ¬ e < i + 1 by omega)]
      simp -failIfUnchanged (disch := first | omega | (simp <;> omega) | fail) only [go_sem, simprocAttr, a1, a2, a3, a4, a5, a6, false_and, and_false, if_false]
      simp [celG, hx, leV, a5]
      rfl
    · omega
  · -- it
    subst hie
    rw [stE, if_neg (by omega)]
    have hlt : i < l.length := by omega
    have hc := hs.c x (by rw [← hx]; exact mem_getD hlt)
    simp -failIfUnchanged (disch := first | omega | (simp <;> omega) | fail) only [go_sem, simprocAttr]
    refine wcond_dec (fun h => ?_) (fun h => ?_)
    · simp -failIfUnchanged (disch := first | omega | (simp <;> omega) | fail) only [go_sem, simprocAttr, hx, a1, a2, a3, a4, false_and, and_false, if_false]
      refine wopsN [] ?_
      simp -failIfUnchanged (disch := first | omega | (simp <;> omega) | fail) only [go_sem, simprocAttr, hx, a1, a2, a3, a4, false_and, and_false, if_false, chunks_flat0]
      refine ⟨i + 1, by dsimp only; omega, by dsimp only; omega, ?_⟩
      rw [stE, if_pos (show i < i + 1 by omega)]
      simp -failIfUnchanged (disch := first | omega | (simp <;> omega) | fail) only [go_sem, simprocAttr, a1, a2, a3, a4, false_and, and_false, if_false]
      simp [celG, hx, leV, celG_lo l i (.int 0) (rwG l i) i (Nat.le_refl _)]
    · omega
  · -- behind it
    have a5 : (i = e) = False := eq_false (by omega)
    have a6 : (e = i) = False := eq_false (by omega)
    rw [stE, if_pos (by omega)]
    simp -failIfUnchanged (disch := first | omega | (simp <;> omega) | fail) only [go_sem, simprocAttr]
    refine wcond_dec (fun h => ?_) (fun h => ?_)
    · have hlt : i < l.length := by omega
      have hc := hs.c x (by rw [← hx]; exact mem_getD hlt)
      simp -failIfUnchanged (disch := first | omega | (simp <;> omega) | fail) only [go_sem, simprocAttr, hx, a1, a2, a3, a4, a5, a6, false_and, and_false, if_false]
      refine wopsN [K 1 i 0] ?_
      simp -failIfUnchanged (disch := first | omega | (simp <;> omega) | fail) only [go_sem, simprocAttr, hx, a1, a2, a3, a4, a5, a6, false_and, and_false, if_false, chunks_flat0]
      refine ⟨i + 1, by dsimp only; omega, by dsimp only; omega, ?_⟩
      rw [stE, if_pos (show e < i + 1 by omega)]
      simp -failIfUnchanged (disch := first | omega | (simp <;> omega) | fail) only [go_sem, simprocAttr, a1, a2, a3, a4, a5, a6, false_and, and_false, if_false]
      simp [celG, hx, leV, a5]
      rfl
    · have e2 : i = l.length := by omega
      subst e2
      simp -failIfUnchanged (disch := first | omega | (simp <;> omega) | fail) only [go_sem, simprocAttr]
      simp [gsB, bsE]

end Go.Proofs.Ytemnojaoickjfaa


/- Plain law: a book in which one cluster is part of what it was. -/
set_option linter.unusedSimpArgs false
set_option linter.unusedVariables false
set_option linter.unnecessarySimpa false
namespace Go.Proofs.Ytemnojaoickjfaa
open Go Go.V

/-- An entry with another cluster. -/
def nrE (x : En) (p : Nat) (s : Sp) : En := { x with cord := x.cord.set p s }
def nrL (l : List En) (e p : Nat) (s : Sp) : List En := l.set e (nrE (l[e]?.getD default) p s)
def nrB (b : FB) (k : Int) (e p : Nat) (s : Sp) : FB := if k = 1 then { b with others := nrL b.others e p s } else { b with ones := nrL b.ones e p s }

theorem nrL_len (l : List En) (e p : Nat) (s : Sp) : (nrL l e p s).length = l.length := by simp [nrL]
theorem nrL_get (l : List En) (e p : Nat) (s : Sp) (he : e < l.length) (i : Nat) : (nrL l e p s)[i]?.getD default = if i = e then nrE (l[e]?.getD default) p s else l[i]?.getD default := by
  unfold nrL
  by_cases h : i = e
  · subst h; simp [he]
  · rw [if_neg h, List.getElem?_set_ne (fun x => h x.symm)]
theorem nrL_mem {l : List En} {e p : Nat} {s : Sp} {x : En} (h : x ∈ nrL l e p s) : x ∈ l ∨ x = nrE (l[e]?.getD default) p s := by
  unfold nrL at h
  exact List.mem_or_eq_of_mem_set h

/-- What the new cluster is to the old one. -/
structure NrOK (x : En) (p : Nat) (s : Sp) : Prop where
  pl : p < x.cord.length
  lo : (x.cord[p]?.getD default).lo ≤ s.lo
  le : s.lo ≤ s.hi
  hi : s.hi ≤ (x.cord[p]?.getD default).hi

theorem nr_in {x : En} {p : Nat} {s : Sp} (h : NrOK x p s) : inL (nrE x p s).cord x.cord := by
  refine ⟨by simp [nrE], fun i hi => ?_⟩
  have hi : i < x.cord.length := by simpa [nrE] using hi
  have e : (nrE x p s).cord[i]?.getD default = if p = i then s else x.cord[i]?.getD default := by
    unfold nrE
    by_cases h : p = i
    · subst h; simp [hi]
    · simp only; rw [List.getElem?_set_ne h, if_neg h]
  rw [e]
  by_cases hp : p = i
  · subst hp
    rw [if_pos rfl]
    exact ⟨h.lo, h.hi⟩
  · rw [if_neg hp]
    exact ⟨Int.le_refl _, Int.le_refl _⟩

theorem nr_vc {b : FB} {x : En} {p : Nat} {s : Sp} (h : NrOK x p s) (hx : VC1 b x.cord) : VC1 b (nrE x p s).cord := by
  refine ⟨by have := hx.n; simpa [nrE] using this, fun t ht => ?_⟩
  unfold nrE at ht
  rcases List.mem_or_eq_of_mem_set ht with h1 | rfl
  · exact hx.s t h1
  · have := hx.s _ (mem_getD h.pl)
    have h1 := h.lo
    have h2 := h.le
    have h3 := h.hi
    omega

theorem com_in {x x' y y' : List Sp} (h1 : inL x' x) (h2 : inL y' y) (hl : x.length = y.length) : inL (comL x' y') (comL x y) := by
  have l1 := h1.1
  have l2 := h2.1
  have e : ∀ (u v : List Sp) (i : Nat), i < u.length → (comL u v)[i]?.getD default = cmS (u[i]?.getD default) (v[i]?.getD default) := fun u v i hi => by
    unfold comL comK
    simp [hi]
  refine ⟨by unfold comL; rw [comK_len, comK_len, l1], fun i hi => ?_⟩
  have hi : i < x'.length := by unfold comL at hi; rwa [comK_len] at hi
  rw [e x' y' i hi, e x y i (by omega)]
  have a1 := h1.2 i hi
  have a2 := h2.2 i (by omega)
  unfold cmS
  dsimp only
  omega
theorem fit_in {x y : List Sp} (h : inL x y) (hf : fitB x = true) : fitB y = true := by
  unfold fitB at hf ⊢
  rw [List.all_eq_true] at hf ⊢
  intro t ht
  obtain ⟨i, hi, rfl⟩ := List.mem_iff_getElem.1 ht
  have hix : i < x.length := by have := h.1; omega
  have h1 := h.2 i hix
  have h2 := hf _ (List.getElem_mem hix)
  rw [List.getElem?_eq_getElem hix, List.getElem?_eq_getElem hi] at h1
  simp only [Option.getD_some] at h1
  have h2 := of_decide_eq_true h2
  exact decide_eq_true (by omega)

section
variable {b : FB} {k : Int} {e p : Nat} {s : Sp}

/-- The entries that the change is in. -/
abbrev bkL (b : FB) (k : Int) : List En := if k = 1 then b.others else b.ones

theorem nrB_1 : nrB b 1 e p s = { b with others := nrL b.others e p s } := by unfold nrB; rw [if_pos rfl]
theorem nrB_0 (h : ¬ k = 1) : nrB b k e p s = { b with ones := nrL b.ones e p s } := by unfold nrB; rw [if_neg h]
theorem nr_late : (nrB b k e p s).late = b.late := by unfold nrB; split <;> rfl
theorem nr_base : (nrB b k e p s).base = b.base := by unfold nrB; split <;> rfl
theorem nr_n1 : (nrB b k e p s).ones.length = b.ones.length := by unfold nrB; split <;> simp [nrL_len]
theorem nr_n2 : (nrB b k e p s).others.length = b.others.length := by unfold nrB; split <;> simp [nrL_len]

/-- An entry of the changed book is as it was but for its cord. -/
theorem nr_one (he : e < (bkL b k).length) (ho : NrOK ((bkL b k)[e]?.getD default) p s) (i : Nat) : (one (nrB b k e p s) i).day = (one b i).day ∧ (one (nrB b k e p s) i).who = (one b i).who ∧ inL (one (nrB b k e p s) i).cord (one b i).cord := by
  unfold one
  by_cases h : k = 1
  · subst h; rw [nrB_1]; exact ⟨rfl, rfl, inL_refl _⟩
  · rw [nrB_0 h]
    unfold bkL at he ho
    rw [if_neg h] at he ho
    dsimp only
    rw [nrL_get _ _ _ _ he]
    by_cases hi : i = e
    · subst hi
      rw [if_pos rfl]
      exact ⟨rfl, rfl, nr_in ho⟩
    · rw [if_neg hi]; exact ⟨rfl, rfl, inL_refl _⟩
theorem nr_oth (he : e < (bkL b k).length) (ho : NrOK ((bkL b k)[e]?.getD default) p s) (i : Nat) : (oth (nrB b k e p s) i).day = (oth b i).day ∧ (oth (nrB b k e p s) i).who = (oth b i).who ∧ inL (oth (nrB b k e p s) i).cord (oth b i).cord := by
  unfold oth
  by_cases h : k = 1
  · subst h
    rw [nrB_1]
    unfold bkL at he ho
    rw [if_pos rfl] at he ho
    dsimp only
    rw [nrL_get _ _ _ _ he]
    by_cases hi : i = e
    · subst hi
      rw [if_pos rfl]
      exact ⟨rfl, rfl, nr_in ho⟩
    · rw [if_neg hi]; exact ⟨rfl, rfl, inL_refl _⟩
  · rw [nrB_0 h]; exact ⟨rfl, rfl, inL_refl _⟩

theorem nr_com (hv : VF b) (he : e < (bkL b k).length) (ho : NrOK ((bkL b k)[e]?.getD default) p s) {i j : Nat} (hi : i < b.ones.length) (hj : j < b.others.length)
    (hc : comB (nrB b k e p s).late (one (nrB b k e p s) i) (oth (nrB b k e p s) j) = true) : comB b.late (one b i) (oth b j) = true := by
  obtain ⟨a1, a2, a3⟩ := nr_one he ho i
  obtain ⟨b1, b2, b3⟩ := nr_oth he ho j
  rw [nr_late] at hc
  unfold comB at hc ⊢
  simp only [Bool.and_eq_true, decide_eq_true_eq] at hc ⊢
  have hd : dayI (one (nrB b k e p s) i) (oth (nrB b k e p s) j) = dayI (one b i) (oth b j) := by unfold dayI; rw [a1, b1]
  rw [a2, b2, hd] at hc
  have v1 := (one_v hv hi).c.n
  have v2 := (oth_v hv hj).c.n
  exact ⟨hc.1, hc.2.1, fit_in (com_in a3 b3 (by omega)) hc.2.2⟩

theorem nr_few (hv : VF b) (he : e < (bkL b k).length) (ho : NrOK ((bkL b k)[e]?.getD default) p s) : fewI b ≤ fewI (nrB b k e p s) := by
  have h1 := fst_gm (nrB b k e p s)
  rw [nr_n1] at h1
  have h2 : GM b b.ones.length (fstM (nrB b k e p s)) := by
    refine ⟨fun q hq => ?_, h1.o, h1.d⟩
    obtain ⟨c1, c2, c3⟩ := h1.p q hq
    rw [nr_n2] at c2
    exact ⟨c1, c2, nr_com hv he ho (by omega) (by omega) c3⟩
  have h3 := most_le h2
  unfold fewI
  rw [nr_n1, nr_n2]
  omega

theorem nr_chk (hv : VF b) (hc : chkB b = true) (he : e < (bkL b k).length) (ho : NrOK ((bkL b k)[e]?.getD default) p s) : chkB (nrB b k e p s) = true := by
  have hve : VE b ((bkL b k)[e]?.getD default) := by
    unfold bkL at he ⊢
    split at he
    · rename_i h; rw [if_pos h]; exact hv.e2 _ (mem_getD he)
    · rename_i h; rw [if_neg h]; exact hv.e1 _ (mem_getD he)
  have key : ∀ l : List En, l = bkL b k → listB b l = true → listB b (nrL l e p s) = true := fun l hl h => by
    subst hl
    unfold listB at h ⊢
    simp only [Bool.and_eq_true, decide_eq_true_eq, List.all_eq_true] at h ⊢
    refine ⟨by rw [nrL_len]; exact h.1, fun x hx => ?_⟩
    rcases nrL_mem hx with hx | rfl
    · exact h.2 x hx
    · have h1 := h.2 _ (mem_getD he)
      unfold entB at h1 ⊢
      simp only [Bool.and_eq_true] at h1 ⊢
      exact ⟨h1.1, h1.2.1, h1.2.2.1, cd_iff.2 (nr_vc ho hve.c)⟩
  unfold chkB at hc
  simp only [Bool.and_eq_true] at hc
  obtain ⟨c1, c2, c3, c4, c5⟩ := hc
  have hl : ∀ o : FB, o.base = b.base → o.places = b.places → o.persons = b.persons → o.late = b.late → listB o o.ones = true → listB o o.others = true → chkB o = true := fun o h1 h2 h3 h4 h5 h6 => by
    unfold chkB bpB
    unfold bpB at c1
    rw [h1, h2, h3, h4, h5, h6, c1, c2, c3]
    rfl
  unfold bkL at key
  unfold nrB
  split
  · rename_i h
    rw [if_pos h] at key
    exact hl _ rfl rfl rfl rfl c4 (key _ rfl c5)
  · rename_i h
    rw [if_neg h] at key
    exact hl _ rfl rfl rfl rfl (key _ rfl c4) c5

theorem nr_smL {l : List En} (h : SmE l) (hl : e < l.length) : SmE (nrL l e p s) := by
  refine ⟨by rw [nrL_len]; exact h.n, fun x hx => ?_⟩
  rcases nrL_mem hx with hx | rfl
  · exact h.c x hx
  · have := h.c _ (mem_getD hl)
    simpa [nrE] using this
theorem nr_sm (hs : SmF b) (he : e < (bkL b k).length) : SmF (nrB b k e p s) := by
  unfold bkL at he
  unfold nrB
  split at he
  · rename_i h; rw [if_pos h]; exact ⟨hs.ones, nr_smL hs.others he⟩
  · rename_i h; rw [if_neg h]; exact ⟨nr_smL hs.ones he, hs.others⟩

/-- What two entries have in common is no wider. -/
theorem nr_pc (hv : VF b) (he : e < (bkL b k).length) (ho : NrOK ((bkL b k)[e]?.getD default) p s) (hv' : VF (nrB b k e p s)) {i j : Nat} (hi : i < b.ones.length) (hj : j < b.others.length)
    (hc : comB (nrB b k e p s).late (one (nrB b k e p s) i) (oth (nrB b k e p s) j) = true) :
    (pcI b (one b i) (oth b j)).lo ≤ (pcI (nrB b k e p s) (one (nrB b k e p s) i) (oth (nrB b k e p s) j)).lo ∧
    (pcI (nrB b k e p s) (one (nrB b k e p s) i) (oth (nrB b k e p s) j)).lo ≤ (pcI (nrB b k e p s) (one (nrB b k e p s) i) (oth (nrB b k e p s) j)).hi ∧
    (pcI (nrB b k e p s) (one (nrB b k e p s) i) (oth (nrB b k e p s) j)).hi ≤ (pcI b (one b i) (oth b j)).hi := by
  have hcb := nr_com hv he ho hi hj hc
  have v1 := com_v2 hv hi hj hcb
  have v2 := com_v2 hv' (by rw [nr_n1]; exact hi) (by rw [nr_n2]; exact hj) hc
  have hbd := ends_bd hv' v2
  obtain ⟨_, _, a3⟩ := nr_one he ho i
  obtain ⟨_, _, b3⟩ := nr_oth he ho j
  have w1 := (one_v hv hi).c.n
  have w2 := (oth_v hv hj).c.n
  have hin := com_in a3 b3 (by omega)
  have hpl : (nrB b k e p s).places = b.places := by unfold nrB; split <;> rfl
  have v2b : VC1 b (comL (one (nrB b k e p s) i).cord (oth (nrB b k e p s) j).cord) := ⟨by rw [v2.n, hpl], fun t ht => by have := v2.s t ht; rw [nr_base] at this; exact this⟩
  have hm := ends_mono hv.bs (by have := hv.pl; omega) v2b v1 hin
  unfold pcI
  rw [nr_base] at hbd ⊢
  exact ⟨hm.1, hbd.2.1, hm.2⟩
end

end Go.Proofs.Ytemnojaoickjfaa


/- FinesClear. -/
set_option linter.unusedSimpArgs false
set_option linter.unusedVariables false
set_option linter.unnecessarySimpa false
namespace Go.Proofs.Ytemnojaoickjfaa
open Go Go.V

theorem pr0 {b : FB} (hv : VF b) (hc : chkB b = true) {i j : Nat} (hi : i < b.ones.length) (hj : j < b.others.length) : prE b i j = 0 := by
  have h1 := hv.n1
  have h2 := hv.n2
  have e1 : oneI b (i : Nat) = true := by
    unfold oneI within
    rw [w64_id (by omega)]
    exact decide_eq_true (by omega)
  have e2 : othI b (j : Nat) = true := by
    unfold othI within
    rw [w64_id (by omega)]
    exact decide_eq_true (by omega)
  unfold prE askF
  rw [hc, e1, e2]
  rfl
theorem sam_of {b : FB} (hs : SmF b) (hv : VF b) (hc : chkB b = true) {i j : Nat} (hi : i < b.ones.length) (hj : j < b.others.length) : Ctr Try.prog 37 [FK b, .int i, .int j] (.tup [.bool (comB b.late (one b i) (oth b j)), .int 0]) := by
  have k := c37 b hs i j
  unfold samR at k
  rw [pr0 hv hc hi hj, if_pos rfl] at k
  simpa using k
theorem cmm_of {b : FB} (hs : SmF b) (hv : VF b) (hc : chkB b = true) {i j : Nat} (hi : i < b.ones.length) (hj : j < b.others.length) (h : comB b.late (one b i) (oth b j) = true) : Ctr Try.prog 41 [FK b, .int i, .int j] (.tup [SP (pcI b (one b i) (oth b j)), .int 0]) := by
  have k := c41 b hs i j
  unfold cmmR at k
  rw [pr0 hv hc hi hj, if_pos rfl, if_pos rfl] at k
  simp only [Int.toNat_natCast, h, cond_true] at k
  exact k
theorem celG_at (l : List En) (e : Nat) (g : AV) : ∀ i, e < i → (celG l e g i)[e * 3 + 2]? = some g
  | 0, h => by omega
  | i + 1, h => by
    rw [celG]
    by_cases h2 : i = e
    · subst h2
      rw [List.getElem?_append_right (by rw [celG_len]; omega), celG_len]
      simp
    · rw [List.getElem?_append_left (by rw [celG_len]; omega)]
      exact celG_at l e g i (by omega)

set_option maxRecDepth 10000 in
set_option maxHeartbeats 1600000 in
theorem c8p (b : FB) (k e p : Int) (s : Sp) (hk : ¬ k = 1) : Ctr Try.prog 8 [FK b, .agg [.int k, .int e, .int p, .int s.lo, .int s.hi]] (.bool true) := by
  refine ctr_of_wp hmix Try.func8 m8p rfl ?_
  unfold v8p
  simp -failIfUnchanged (disch := first | omega | (simp <;> omega) | fail) only [go_sem, simprocAttr]
  refine wcall (c22 b) ?_
  cases hr : rdyF b with
  | false =>
    simp -failIfUnchanged (disch := first | omega | (simp <;> omega) | fail) only [go_sem, simprocAttr]
    refine wcall c15 ?_
    simp -failIfUnchanged (disch := first | omega | (simp <;> omega) | fail) only [go_sem, simprocAttr]
  | true =>
    obtain ⟨hs, hc, hv⟩ := rdy_of hr
    simp -failIfUnchanged (disch := first | omega | (simp <;> omega) | fail) only [go_sem, simprocAttr]
    refine wcall (c38 k) ?_
    cases hw : within k 0 1 with
    | false =>
      simp -failIfUnchanged (disch := first | omega | (simp <;> omega) | fail) only [go_sem, simprocAttr]
      refine wcall c15 ?_
      simp -failIfUnchanged (disch := first | omega | (simp <;> omega) | fail) only [go_sem, simprocAttr]
    | true =>
      obtain rfl : k = 0 := by
        have : 0 ≤ k ∧ k ≤ 1 := by simpa [within] using hw
        omega
      have k39 : Ctr Try.prog 39 [FK b, .int 0] (ES b.ones) := by
        have := c39 b 0
        rwa [if_neg (by omega)] at this
      have hn : b.ones.length ≤ 5 := hv.n1
      have hpl := hv.pl
      simp -failIfUnchanged (disch := first | omega | (simp <;> omega) | fail) only [go_sem, simprocAttr]
      refine wcall k39 ?_
      simp -failIfUnchanged (disch := first | omega | (simp <;> omega) | fail) only [go_sem, simprocAttr]
      refine wcall (c33 _ _ _) ?_
      cases hwe : within e 0 ((b.ones.length : Int) - 1) with
      | false =>
        simp -failIfUnchanged (disch := first | omega | (simp <;> omega) | fail) only [go_sem, simprocAttr]
        refine wcall c15 ?_
        simp -failIfUnchanged (disch := first | omega | (simp <;> omega) | fail) only [go_sem, simprocAttr]
      | true =>
        replace hwe : 0 ≤ e ∧ e ≤ (b.ones.length : Int) - 1 := by simpa [within] using hwe
        obtain ⟨e, rfl⟩ : ∃ q : Nat, e = q := ⟨e.toNat, by omega⟩
        have he : e < b.ones.length := by omega
        simp -failIfUnchanged (disch := first | omega | (simp <;> omega) | fail) only [go_sem, simprocAttr]
        refine wcall (c33 _ _ _) ?_
        cases hwp : within p 0 (b.places - 1) with
        | false =>
          simp -failIfUnchanged (disch := first | omega | (simp <;> omega) | fail) only [go_sem, simprocAttr]
          refine wcall c15 ?_
          simp -failIfUnchanged (disch := first | omega | (simp <;> omega) | fail) only [go_sem, simprocAttr]
        | true =>
          replace hwp : 0 ≤ p ∧ p ≤ b.places - 1 := by simpa [within] using hwp
          obtain ⟨p, rfl⟩ : ∃ q : Nat, p = q := ⟨p.toNat, by omega⟩
          obtain ⟨x, hx⟩ : ∃ x, b.ones[e]?.getD default = x := ⟨_, rfl⟩
          have hxm : x ∈ b.ones := by rw [← hx]; exact mem_getD he
          have hve := hv.e1 x hxm
          have hxl : (x.cord.length : Int) = b.places := hve.c.n
          have hp : p < x.cord.length := by omega
          obtain ⟨y, hy⟩ : ∃ y, x.cord[p]?.getD default = y := ⟨_, rfl⟩
          simp -failIfUnchanged (disch := first | omega | (simp <;> omega) | fail) only [go_sem, simprocAttr]
          refine WGd_bool (fun h1 => ?_) (fun h1 => ?_)
          · have h1' : s.lo ≤ s.hi := by simp at h1; omega
            simp -failIfUnchanged (disch := first | omega | (simp <;> omega) | fail) only [go_sem, simprocAttr, h1]
            refine wcall k39 ?_
            simp -failIfUnchanged (disch := first | omega | (simp <;> omega) | fail) only [go_sem, simprocAttr, hx, hy]
            refine wcall (c40 s y) ?_
            cases hin : (decide (y.lo ≤ s.lo) && (decide (s.lo ≤ s.hi) && decide (s.hi ≤ y.hi))) with
            | false =>
              simp -failIfUnchanged (disch := first | omega | (simp <;> omega) | fail) only [go_sem, simprocAttr]
              refine wcall c15 ?_
              simp -failIfUnchanged (disch := first | omega | (simp <;> omega) | fail) only [go_sem, simprocAttr]
            | true =>
              simp only [Bool.and_eq_true, decide_eq_true_eq] at hin
              have hok : NrOK x p s := ⟨hp, by rw [hy]; exact hin.1, hin.2.1, by rw [hy]; exact hin.2.2⟩
              simp -failIfUnchanged (disch := first | omega | (simp <;> omega) | fail) only [go_sem, simprocAttr]
              -- the copy: its rows are our own
              have a1 : (77 = e) = False := eq_false (by omega)
              have a2 : (e = 77) = False := eq_false (by omega)
              refine wcall_in hmix Try.func16 (m16p (bsE b.ones e)) rfl ?_
              unfold v16p
              simp -failIfUnchanged (disch := first | omega | (simp <;> omega) | fail) only [go_sem, simprocAttr]
              refine wcalls (c26S b.ones hs.ones hn e he) ?_
              simp -failIfUnchanged (disch := first | omega | (simp <;> omega) | fail) only [go_sem, simprocAttr, gsB, bsE, List.map_cons, List.map_nil, List.cons_append, List.nil_append, a1, a2, false_and, and_false, if_false]
              refine wcall (c26 _ hs.others) ?_
              simp -failIfUnchanged (disch := first | omega | (simp <;> omega) | fail) only [go_sem, simprocAttr, gsB, bsE, List.map_cons, List.map_nil, List.cons_append, List.nil_append, a1, a2, false_and, and_false, if_false]
              have hat : (celG b.ones e (rwG b.ones e) b.ones.length)[e * 3 + 2]? = some (rwG b.ones e) := celG_at _ _ _ _ he
              have hrl : (b.ones[e]?.getD default).cord.length = x.cord.length := by rw [hx]
              refine wcallt rfl ⟨rfl, trivial⟩ rfl (c39T 0 4 rfl) ?_
              have hld := celG_len b.ones e (rwG b.ones e) b.ones.length
              have hfl := flat_len x.cord
              have hsf : setAt (flat (x.cord.map SP)) (p * 2) [.int s.lo, .int s.hi] = flat ((x.cord.set p s).map SP) := setAt_flat x.cord p s.lo s.hi hp
              simp -failIfUnchanged (disch := first | omega | (simp <;> omega) | fail) only [go_sem, simprocAttr, hat, hrl, hx, hsf, gsB, bsE, List.map_cons, List.map_nil, List.cons_append, List.nil_append, a1, a2, false_and, and_false, if_false]
              have hc2 : chunks true 2 (flat ((x.cord.set p s).map SP)) 0 x.cord.length = (x.cord.set p s).map SP := chunks_flat0 _ _ (by simp)
              have hl2 : (flat ((x.cord.set p s).map SP)).length = x.cord.length * 2 := by rw [flat_len]; simp
              have hch : chunks true 3 (celG b.ones e (SS (x.cord.set p s)) b.ones.length) 0 b.ones.length = (nrL b.ones e p s).map EN := by
                have := celG_chunks b.ones (nrL b.ones e p s) e he (x.cord.set p s) (by unfold nrL nrE; rw [hx]) b.ones.length (Nat.le_refl _)
                rw [this, List.take_of_length_le (by rw [nrL_len]; exact Nat.le_refl _)]
              have hld2 := celG_len b.ones e (SS (x.cord.set p s)) b.ones.length
              refine wopsN [K 1 e 0, K 1 77 b.ones.length] ?_
              simp -failIfUnchanged (disch := first | omega | (simp <;> omega) | fail) only [go_sem, simprocAttr, hrl, hx, hc2, hl2, hch, Nat.le_refl, gsB, bsE, List.map_cons, List.map_nil, List.cons_append, List.nil_append, a1, a2, false_and, and_false, if_false]
              have q1 := hv.n1
              have q2 := hv.n2
              have hse : e < (bkL b 0).length := he
              have hok' : NrOK ((bkL b 0)[e]?.getD default) p s := by
                have : (bkL b 0)[e]?.getD default = x := hx
                rw [this]
                exact hok
              have hso := nr_sm (p := p) (s := s) hs hse
              have hco := nr_chk hv hc hse hok'
              have hvo := vf_of hco
              have hfew := nr_few hv hse hok'
              have hcom := fun i j (hi : i < b.ones.length) (hj : j < b.others.length) => nr_com hv hse hok' hi hj
              have hpc := fun i j (hi : i < b.ones.length) (hj : j < b.others.length) => nr_pc hv hse hok' hvo hi hj
              have n1 := nr_n1 (b := b) (k := 0) (e := e) (p := p) (s := s)
              have n2 := nr_n2 (b := b) (k := 0) (e := e) (p := p) (s := s)
              have hFK : FK (nrB b 0 e p s) = .agg [.int b.base, .int b.places, .int b.persons, .int b.late, ES (nrL b.ones e p s), ES b.others] := by rw [nrB_0 (by omega)]
              obtain ⟨o, ho⟩ : ∃ o, nrB b 0 e p s = o := ⟨_, rfl⟩
              rw [ho] at hso hco hvo hfew n1 n2 hFK
              simp only [ho] at hcom hpc
              have k23 := c23 b hs hc
              have k24 := c23 o hso hco
              have hd : decide (fewI o < fewI b) = false := decide_eq_false (by omega)
              have d0 : decide (¬ (0 : Int) = 0) = false := rfl
              rw [hFK] at k24
              generalize nrL b.ones e p s = L at *
              generalize fewI o = fo at *
              generalize fewI b = fb at *
              refine wcall k23 ?_
              simp -failIfUnchanged (disch := first | omega | (simp <;> omega) | fail) only [go_sem, simprocAttr]
              refine wcall k24 ?_
              simp -failIfUnchanged (disch := first | omega | (simp <;> omega) | fail) only [go_sem, simprocAttr, hd]
              refine wp_loop' Nat (fun i => ⟨[(2, .ptr 2 0), (5, .ptr 5 0), (10, .int i)], [(5, ⟨[.int b.base, .int b.places, .int b.persons, .int b.late, ES L, ES b.others], false⟩), (2, ⟨[.int b.base, .int b.places, .int b.persons, .int b.late, ES b.ones, ES b.others], false⟩)], [], none⟩) (fun i => i ≤ b.ones.length) (fun i => b.ones.length - i) 0 (by simp) (by simp -failIfUnchanged (disch := first | omega | (simp <;> omega) | fail) only [go_sem, simprocAttr]; try simp) ?_
              intro i hi
              have hi : i ≤ b.ones.length := hi
              simp -failIfUnchanged (disch := first | omega | (simp <;> omega) | fail) only [go_sem, simprocAttr]
              refine wcond_dec (fun h => ?_) (fun h => ?_)
              · have hil : i < b.ones.length := by omega
                simp -failIfUnchanged (disch := first | omega | (simp <;> omega) | fail) only [go_sem, simprocAttr]
                refine wp_loop' Nat (fun j => ⟨[(2, .ptr 2 0), (5, .ptr 5 0), (10, .int i), (11, .int j)], [(5, ⟨[.int b.base, .int b.places, .int b.persons, .int b.late, ES L, ES b.others], false⟩), (2, ⟨[.int b.base, .int b.places, .int b.persons, .int b.late, ES b.ones, ES b.others], false⟩)], [], none⟩) (fun j => j ≤ b.others.length) (fun j => b.others.length - j) 0 (by simp) (by simp -failIfUnchanged (disch := first | omega | (simp <;> omega) | fail) only [go_sem, simprocAttr]; try simp) ?_
                intro j hj
                have hj : j ≤ b.others.length := hj
                simp -failIfUnchanged (disch := first | omega | (simp <;> omega) | fail) only [go_sem, simprocAttr]
                refine wcond_dec (fun h2 => ?_) (fun h2 => ?_)
                · have hjl : j < b.others.length := by omega
                  have s1 := sam_of hs hv hc hil hjl
                  have s2 := sam_of hso hvo hco (i := i) (j := j) (by omega) (by omega)
                  rw [hFK] at s2
                  cases hB : comB o.late (one o i) (oth o j) with
                  | false =>
                    rw [hB] at s2
                    generalize comB b.late (one b i) (oth b j) = A at *
                    simp -failIfUnchanged (disch := first | omega | (simp <;> omega) | fail) only [go_sem, simprocAttr]
                    refine wcall s1 ?_
                    simp -failIfUnchanged (disch := first | omega | (simp <;> omega) | fail) only [go_sem, simprocAttr]
                    refine wcall s2 ?_
                    simp -failIfUnchanged (disch := first | omega | (simp <;> omega) | fail) only [go_sem, simprocAttr, d0]
                    refine ⟨j + 1, by dsimp only; omega, by dsimp only; omega, ?_⟩
                    simp -failIfUnchanged (disch := first | omega | (simp <;> omega) | fail) only [go_sem, simprocAttr]
                    try simp
                  | true =>
                    have hA := hcom i j hil hjl hB
                    have m1 := cmm_of hs hv hc hil hjl hA
                    have m2 := cmm_of hso hvo hco (i := i) (j := j) (by omega) (by omega) hB
                    have hp3 := hpc i j hil hjl hB
                    rw [hFK] at m2
                    rw [hB] at s2
                    rw [hA] at s1
                    have k40 := c40 (pcI o (one o i) (oth o j)) (pcI b (one b i) (oth b j))
                    rw [decide_eq_true hp3.1, decide_eq_true hp3.2.1, decide_eq_true hp3.2.2] at k40
                    generalize pcI o (one o i) (oth o j) = u at *
                    generalize pcI b (one b i) (oth b j) = z at *
                    simp -failIfUnchanged (disch := first | omega | (simp <;> omega) | fail) only [go_sem, simprocAttr]
                    refine wcall s1 ?_
                    simp -failIfUnchanged (disch := first | omega | (simp <;> omega) | fail) only [go_sem, simprocAttr]
                    refine wcall s2 ?_
                    simp -failIfUnchanged (disch := first | omega | (simp <;> omega) | fail) only [go_sem, simprocAttr, d0]
                    refine wcall m1 ?_
                    simp -failIfUnchanged (disch := first | omega | (simp <;> omega) | fail) only [go_sem, simprocAttr]
                    refine wcall m2 ?_
                    simp -failIfUnchanged (disch := first | omega | (simp <;> omega) | fail) only [go_sem, simprocAttr, d0]
                    refine wcall k40 ?_
                    simp -failIfUnchanged (disch := first | omega | (simp <;> omega) | fail) only [go_sem, simprocAttr]
                    refine ⟨j + 1, by dsimp only; omega, by dsimp only; omega, ?_⟩
                    simp -failIfUnchanged (disch := first | omega | (simp <;> omega) | fail) only [go_sem, simprocAttr]
                    try simp
                · simp -failIfUnchanged (disch := first | omega | (simp <;> omega) | fail) only [go_sem, simprocAttr]
                  refine ⟨i + 1, by dsimp only; omega, by dsimp only; omega, ?_⟩
                  simp -failIfUnchanged (disch := first | omega | (simp <;> omega) | fail) only [go_sem, simprocAttr]
                  try simp
              · simp -failIfUnchanged (disch := first | omega | (simp <;> omega) | fail) only [go_sem, simprocAttr]
                refine wcall c15 ?_
                simp -failIfUnchanged (disch := first | omega | (simp <;> omega) | fail) only [go_sem, simprocAttr]
          · simp -failIfUnchanged (disch := first | omega | (simp <;> omega) | fail) only [go_sem, simprocAttr, h1]
            refine wcall c15 ?_
            simp -failIfUnchanged (disch := first | omega | (simp <;> omega) | fail) only [go_sem, simprocAttr]

set_option maxRecDepth 10000 in
set_option maxHeartbeats 1600000 in
theorem c8q (b : FB) (k e p : Int) (s : Sp) (hk : k = 1) : Ctr Try.prog 8 [FK b, .agg [.int k, .int e, .int p, .int s.lo, .int s.hi]] (.bool true) := by
  refine ctr_of_wp hmix Try.func8 m8q rfl ?_
  unfold v8q
  simp -failIfUnchanged (disch := first | omega | (simp <;> omega) | fail) only [go_sem, simprocAttr]
  refine wcall (c22 b) ?_
  cases hr : rdyF b with
  | false =>
    simp -failIfUnchanged (disch := first | omega | (simp <;> omega) | fail) only [go_sem, simprocAttr]
    refine wcall c15 ?_
    simp -failIfUnchanged (disch := first | omega | (simp <;> omega) | fail) only [go_sem, simprocAttr]
  | true =>
    obtain ⟨hs, hc, hv⟩ := rdy_of hr
    simp -failIfUnchanged (disch := first | omega | (simp <;> omega) | fail) only [go_sem, simprocAttr]
    refine wcall (c38 k) ?_
    cases hw : within k 0 1 with
    | false =>
      simp -failIfUnchanged (disch := first | omega | (simp <;> omega) | fail) only [go_sem, simprocAttr]
      refine wcall c15 ?_
      simp -failIfUnchanged (disch := first | omega | (simp <;> omega) | fail) only [go_sem, simprocAttr]
    | true =>
      obtain rfl : k = 1 := by
        have : 0 ≤ k ∧ k ≤ 1 := by simpa [within] using hw
        omega
      have k39 : Ctr Try.prog 39 [FK b, .int 1] (ES b.others) := by
        have := c39 b 1
        rwa [if_pos rfl] at this
      have hn : b.others.length ≤ 5 := hv.n2
      have hpl := hv.pl
      simp -failIfUnchanged (disch := first | omega | (simp <;> omega) | fail) only [go_sem, simprocAttr]
      refine wcall k39 ?_
      simp -failIfUnchanged (disch := first | omega | (simp <;> omega) | fail) only [go_sem, simprocAttr]
      refine wcall (c33 _ _ _) ?_
      cases hwe : within e 0 ((b.others.length : Int) - 1) with
      | false =>
        simp -failIfUnchanged (disch := first | omega | (simp <;> omega) | fail) only [go_sem, simprocAttr]
        refine wcall c15 ?_
        simp -failIfUnchanged (disch := first | omega | (simp <;> omega) | fail) only [go_sem, simprocAttr]
      | true =>
        replace hwe : 0 ≤ e ∧ e ≤ (b.others.length : Int) - 1 := by simpa [within] using hwe
        obtain ⟨e, rfl⟩ : ∃ q : Nat, e = q := ⟨e.toNat, by omega⟩
        have he : e < b.others.length := by omega
        simp -failIfUnchanged (disch := first | omega | (simp <;> omega) | fail) only [go_sem, simprocAttr]
        refine wcall (c33 _ _ _) ?_
        cases hwp : within p 0 (b.places - 1) with
        | false =>
          simp -failIfUnchanged (disch := first | omega | (simp <;> omega) | fail) only [go_sem, simprocAttr]
          refine wcall c15 ?_
          simp -failIfUnchanged (disch := first | omega | (simp <;> omega) | fail) only [go_sem, simprocAttr]
        | true =>
          replace hwp : 0 ≤ p ∧ p ≤ b.places - 1 := by simpa [within] using hwp
          obtain ⟨p, rfl⟩ : ∃ q : Nat, p = q := ⟨p.toNat, by omega⟩
          obtain ⟨x, hx⟩ : ∃ x, b.others[e]?.getD default = x := ⟨_, rfl⟩
          have hxm : x ∈ b.others := by rw [← hx]; exact mem_getD he
          have hve := hv.e2 x hxm
          have hxl : (x.cord.length : Int) = b.places := hve.c.n
          have hp : p < x.cord.length := by omega
          obtain ⟨y, hy⟩ : ∃ y, x.cord[p]?.getD default = y := ⟨_, rfl⟩
          simp -failIfUnchanged (disch := first | omega | (simp <;> omega) | fail) only [go_sem, simprocAttr]
          refine WGd_bool (fun h1 => ?_) (fun h1 => ?_)
          · have h1' : s.lo ≤ s.hi := by simp at h1; omega
            simp -failIfUnchanged (disch := first | omega | (simp <;> omega) | fail) only [go_sem, simprocAttr, h1]
            refine wcall k39 ?_
            simp -failIfUnchanged (disch := first | omega | (simp <;> omega) | fail) only [go_sem, simprocAttr, hx, hy]
            refine wcall (c40 s y) ?_
            cases hin : (decide (y.lo ≤ s.lo) && (decide (s.lo ≤ s.hi) && decide (s.hi ≤ y.hi))) with
            | false =>
              simp -failIfUnchanged (disch := first | omega | (simp <;> omega) | fail) only [go_sem, simprocAttr]
              refine wcall c15 ?_
              simp -failIfUnchanged (disch := first | omega | (simp <;> omega) | fail) only [go_sem, simprocAttr]
            | true =>
              simp only [Bool.and_eq_true, decide_eq_true_eq] at hin
              have hok : NrOK x p s := ⟨hp, by rw [hy]; exact hin.1, hin.2.1, by rw [hy]; exact hin.2.2⟩
              simp -failIfUnchanged (disch := first | omega | (simp <;> omega) | fail) only [go_sem, simprocAttr]
              -- the copy: its rows are our own
              have a1 : (77 = e) = False := eq_false (by omega)
              have a2 : (e = 77) = False := eq_false (by omega)
              refine wcall_in hmix Try.func16 (m16q (bsE b.others e)) rfl ?_
              unfold v16q
              simp -failIfUnchanged (disch := first | omega | (simp <;> omega) | fail) only [go_sem, simprocAttr]
              refine wcall (c26 _ hs.ones) ?_
              simp -failIfUnchanged (disch := first | omega | (simp <;> omega) | fail) only [go_sem, simprocAttr]
              refine wcalls (c26S b.others hs.others hn e he) ?_
              simp -failIfUnchanged (disch := first | omega | (simp <;> omega) | fail) only [go_sem, simprocAttr, gsB, bsE, List.map_cons, List.map_nil, List.cons_append, List.nil_append, a1, a2, false_and, and_false, if_false]
              have hat : (celG b.others e (rwG b.others e) b.others.length)[e * 3 + 2]? = some (rwG b.others e) := celG_at _ _ _ _ he
              have hrl : (b.others[e]?.getD default).cord.length = x.cord.length := by rw [hx]
              refine wcallt rfl ⟨rfl, trivial⟩ rfl (c39T 1 5 rfl) ?_
              have hld := celG_len b.others e (rwG b.others e) b.others.length
              have hfl := flat_len x.cord
              have hsf : setAt (flat (x.cord.map SP)) (p * 2) [.int s.lo, .int s.hi] = flat ((x.cord.set p s).map SP) := setAt_flat x.cord p s.lo s.hi hp
              simp -failIfUnchanged (disch := first | omega | (simp <;> omega) | fail) only [go_sem, simprocAttr, hat, hrl, hx, hsf, gsB, bsE, List.map_cons, List.map_nil, List.cons_append, List.nil_append, a1, a2, false_and, and_false, if_false]
              have hc2 : chunks true 2 (flat ((x.cord.set p s).map SP)) 0 x.cord.length = (x.cord.set p s).map SP := chunks_flat0 _ _ (by simp)
              have hl2 : (flat ((x.cord.set p s).map SP)).length = x.cord.length * 2 := by rw [flat_len]; simp
              have hch : chunks true 3 (celG b.others e (SS (x.cord.set p s)) b.others.length) 0 b.others.length = (nrL b.others e p s).map EN := by
                have := celG_chunks b.others (nrL b.others e p s) e he (x.cord.set p s) (by unfold nrL nrE; rw [hx]) b.others.length (Nat.le_refl _)
                rw [this, List.take_of_length_le (by rw [nrL_len]; exact Nat.le_refl _)]
              have hld2 := celG_len b.others e (SS (x.cord.set p s)) b.others.length
              refine wopsN [K 1 e 0, K 1 77 b.others.length] ?_
              simp -failIfUnchanged (disch := first | omega | (simp <;> omega) | fail) only [go_sem, simprocAttr, hrl, hx, hc2, hl2, hch, Nat.le_refl, gsB, bsE, List.map_cons, List.map_nil, List.cons_append, List.nil_append, a1, a2, false_and, and_false, if_false]
              have q1 := hv.n1
              have q2 := hv.n2
              have hse : e < (bkL b 1).length := he
              have hok' : NrOK ((bkL b 1)[e]?.getD default) p s := by
                have : (bkL b 1)[e]?.getD default = x := hx
                rw [this]
                exact hok
              have hso := nr_sm (p := p) (s := s) hs hse
              have hco := nr_chk hv hc hse hok'
              have hvo := vf_of hco
              have hfew := nr_few hv hse hok'
              have hcom := fun i j (hi : i < b.ones.length) (hj : j < b.others.length) => nr_com hv hse hok' hi hj
              have hpc := fun i j (hi : i < b.ones.length) (hj : j < b.others.length) => nr_pc hv hse hok' hvo hi hj
              have n1 := nr_n1 (b := b) (k := 1) (e := e) (p := p) (s := s)
              have n2 := nr_n2 (b := b) (k := 1) (e := e) (p := p) (s := s)
              have hFK : FK (nrB b 1 e p s) = .agg [.int b.base, .int b.places, .int b.persons, .int b.late, ES b.ones, ES (nrL b.others e p s)] := by rw [nrB_1]
              obtain ⟨o, ho⟩ : ∃ o, nrB b 1 e p s = o := ⟨_, rfl⟩
              rw [ho] at hso hco hvo hfew n1 n2 hFK
              simp only [ho] at hcom hpc
              have k23 := c23 b hs hc
              have k24 := c23 o hso hco
              have hd : decide (fewI o < fewI b) = false := decide_eq_false (by omega)
              have d0 : decide (¬ (0 : Int) = 0) = false := rfl
              rw [hFK] at k24
              generalize nrL b.others e p s = L at *
              generalize fewI o = fo at *
              generalize fewI b = fb at *
              refine wcall k23 ?_
              simp -failIfUnchanged (disch := first | omega | (simp <;> omega) | fail) only [go_sem, simprocAttr]
              refine wcall k24 ?_
              simp -failIfUnchanged (disch := first | omega | (simp <;> omega) | fail) only [go_sem, simprocAttr, hd]
              refine wp_loop' Nat (fun i => ⟨[(2, .ptr 2 0), (5, .ptr 5 0), (10, .int i)], [(5, ⟨[.int b.base, .int b.places, .int b.persons, .int b.late, ES b.ones, ES L], false⟩), (2, ⟨[.int b.base, .int b.places, .int b.persons, .int b.late, ES b.ones, ES b.others], false⟩)], [], none⟩) (fun i => i ≤ b.ones.length) (fun i => b.ones.length - i) 0 (by simp) (by simp -failIfUnchanged (disch := first | omega | (simp <;> omega) | fail) only [go_sem, simprocAttr]; try simp) ?_
              intro i hi
              have hi : i ≤ b.ones.length := hi
              simp -failIfUnchanged (disch := first | omega | (simp <;> omega) | fail) only [go_sem, simprocAttr]
              refine wcond_dec (fun h => ?_) (fun h => ?_)
              · have hil : i < b.ones.length := by omega
                simp -failIfUnchanged (disch := first | omega | (simp <;> omega) | fail) only [go_sem, simprocAttr]
                refine wp_loop' Nat (fun j => ⟨[(2, .ptr 2 0), (5, .ptr 5 0), (10, .int i), (11, .int j)], [(5, ⟨[.int b.base, .int b.places, .int b.persons, .int b.late, ES b.ones, ES L], false⟩), (2, ⟨[.int b.base, .int b.places, .int b.persons, .int b.late, ES b.ones, ES b.others], false⟩)], [], none⟩) (fun j => j ≤ b.others.length) (fun j => b.others.length - j) 0 (by simp) (by simp -failIfUnchanged (disch := first | omega | (simp <;> omega) | fail) only [go_sem, simprocAttr]; try simp) ?_
                intro j hj
                have hj : j ≤ b.others.length := hj
                simp -failIfUnchanged (disch := first | omega | (simp <;> omega) | fail) only [go_sem, simprocAttr]
                refine wcond_dec (fun h2 => ?_) (fun h2 => ?_)
                · have hjl : j < b.others.length := by omega
                  have s1 := sam_of hs hv hc hil hjl
                  have s2 := sam_of hso hvo hco (i := i) (j := j) (by omega) (by omega)
                  rw [hFK] at s2
                  cases hB : comB o.late (one o i) (oth o j) with
                  | false =>
                    rw [hB] at s2
                    generalize comB b.late (one b i) (oth b j) = A at *
                    simp -failIfUnchanged (disch := first | omega | (simp <;> omega) | fail) only [go_sem, simprocAttr]
                    refine wcall s1 ?_
                    simp -failIfUnchanged (disch := first | omega | (simp <;> omega) | fail) only [go_sem, simprocAttr]
                    refine wcall s2 ?_
                    simp -failIfUnchanged (disch := first | omega | (simp <;> omega) | fail) only [go_sem, simprocAttr, d0]
                    refine ⟨j + 1, by dsimp only; omega, by dsimp only; omega, ?_⟩
                    simp -failIfUnchanged (disch := first | omega | (simp <;> omega) | fail) only [go_sem, simprocAttr]
                    try simp
                  | true =>
                    have hA := hcom i j hil hjl hB
                    have m1 := cmm_of hs hv hc hil hjl hA
                    have m2 := cmm_of hso hvo hco (i := i) (j := j) (by omega) (by omega) hB
                    have hp3 := hpc i j hil hjl hB
                    rw [hFK] at m2
                    rw [hB] at s2
                    rw [hA] at s1
                    have k40 := c40 (pcI o (one o i) (oth o j)) (pcI b (one b i) (oth b j))
                    rw [decide_eq_true hp3.1, decide_eq_true hp3.2.1, decide_eq_true hp3.2.2] at k40
                    generalize pcI o (one o i) (oth o j) = u at *
                    generalize pcI b (one b i) (oth b j) = z at *
                    simp -failIfUnchanged (disch := first | omega | (simp <;> omega) | fail) only [go_sem, simprocAttr]
                    refine wcall s1 ?_
                    simp -failIfUnchanged (disch := first | omega | (simp <;> omega) | fail) only [go_sem, simprocAttr]
                    refine wcall s2 ?_
                    simp -failIfUnchanged (disch := first | omega | (simp <;> omega) | fail) only [go_sem, simprocAttr, d0]
                    refine wcall m1 ?_
                    simp -failIfUnchanged (disch := first | omega | (simp <;> omega) | fail) only [go_sem, simprocAttr]
                    refine wcall m2 ?_
                    simp -failIfUnchanged (disch := first | omega | (simp <;> omega) | fail) only [go_sem, simprocAttr, d0]
                    refine wcall k40 ?_
                    simp -failIfUnchanged (disch := first | omega | (simp <;> omega) | fail) only [go_sem, simprocAttr]
                    refine ⟨j + 1, by dsimp only; omega, by dsimp only; omega, ?_⟩
                    simp -failIfUnchanged (disch := first | omega | (simp <;> omega) | fail) only [go_sem, simprocAttr]
                    try simp
                · simp -failIfUnchanged (disch := first | omega | (simp <;> omega) | fail) only [go_sem, simprocAttr]
                  refine ⟨i + 1, by dsimp only; omega, by dsimp only; omega, ?_⟩
                  simp -failIfUnchanged (disch := first | omega | (simp <;> omega) | fail) only [go_sem, simprocAttr]
                  try simp
              · simp -failIfUnchanged (disch := first | omega | (simp <;> omega) | fail) only [go_sem, simprocAttr]
                refine wcall c15 ?_
                simp -failIfUnchanged (disch := first | omega | (simp <;> omega) | fail) only [go_sem, simprocAttr]
          · simp -failIfUnchanged (disch := first | omega | (simp <;> omega) | fail) only [go_sem, simprocAttr, h1]
            refine wcall c15 ?_
            simp -failIfUnchanged (disch := first | omega | (simp <;> omega) | fail) only [go_sem, simprocAttr]

theorem c8 (b : FB) (k e p : Int) (s : Sp) : Ctr Try.prog 8 [FK b, .agg [.int k, .int e, .int p, .int s.lo, .int s.hi]] (.bool true) := by
  by_cases hk : k = 1
  · exact c8q b k e p s hk
  · exact c8p b k e p s hk

end Go.Proofs.Ytemnojaoickjfaa

