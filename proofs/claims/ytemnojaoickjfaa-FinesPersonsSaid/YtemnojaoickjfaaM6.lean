/- Merged by program: T34, T35, T36, T37, T38, T39, T40, T42, T43, T47, T48. -/
import Derived.Test.YtemnojaoickjfaaM5
import Derived.DeepKeys4
/- What a person owes, as the document has it. -/
set_option linter.unusedSimpArgs false
set_option linter.unusedVariables false
set_option linter.unnecessarySimpa false
namespace Go.Proofs.Ytemnojaoickjfaa
open Go Go.V

/-- The sums over the pairs, the entries of Ones, those of Others. -/
def dwP (b : FB) (t : List Pa) (who : Int) : Nat → Sp
  | 0 => ⟨0, 0⟩
  | k + 1 => if (one b (t[k]?.getD default).one.toNat).who = who then addS (dwP b t who k) (pcI b (one b (t[k]?.getD default).one.toNat) (oth b (t[k]?.getD default).other.toNat)) else dwP b t who k
def dw1 (b : FB) (t : List Pa) (who : Int) (s : Sp) : Nat → Sp
  | 0 => s
  | i + 1 => if (one b i).who = who ∧ inO t i = false then addS (dw1 b t who s i) (endsL b.base (one b i).cord) else dw1 b t who s i
def dw2 (b : FB) (t : List Pa) (who : Int) (s : Sp) : Nat → Sp
  | 0 => s
  | j + 1 => if (oth b j).who = who ∧ inT t j = false then addS (dw2 b t who s j) (endsL b.base (oth b j).cord) else dw2 b t who s j
def dwI (b : FB) (t : List Pa) (who : Int) : Sp := dw2 b t who (dw1 b t who (dwP b t who t.length) b.ones.length) b.others.length

theorem dwP_bd {b : FB} (hv : VF b) {t : List Pa} (hg : GM b b.ones.length t) (who : Int) : ∀ k : Nat, k ≤ t.length → SpB (dwP b t who k) k
  | 0, _ => ⟨Int.le_refl _, Int.le_refl _, by simp [dwP]⟩
  | k + 1, hk => by
    have ih := dwP_bd hv hg who k (by omega)
    obtain ⟨i, j, e, hi, hj, hc⟩ := gm_at hg (k := k) (by omega)
    unfold dwP
    rw [e]
    simp only [Int.toNat_natCast]
    split
    · exact spB_le (spB_add ih (ends_bd hv (com_v2 hv hi hj hc))) (by omega)
    · exact spB_le ih (by omega)
theorem dw1_bd {b : FB} (hv : VF b) (t : List Pa) (who : Int) {s : Sp} {n : Int} (hs : SpB s n) : ∀ k : Nat, k ≤ b.ones.length → SpB (dw1 b t who s k) (n + k)
  | 0, _ => by simpa [dw1] using hs
  | k + 1, hk => by
    have ih := dw1_bd hv t who hs k (by omega)
    unfold dw1
    split
    · exact spB_le (spB_add ih (ends_bd hv (one_v hv (by omega)).c)) (by omega)
    · exact spB_le ih (by omega)
theorem dw2_bd {b : FB} (hv : VF b) (t : List Pa) (who : Int) {s : Sp} {n : Int} (hs : SpB s n) : ∀ k : Nat, k ≤ b.others.length → SpB (dw2 b t who s k) (n + k)
  | 0, _ => by simpa [dw2] using hs
  | k + 1, hk => by
    have ih := dw2_bd hv t who hs k (by omega)
    unfold dw2
    split
    · exact spB_le (spB_add ih (ends_bd hv (oth_v hv (by omega)).c)) (by omega)
    · exact spB_le ih (by omega)
theorem c91s (a c : Sp) {n : Int} (ha : SpB a n) (hn : n ≤ 100) (hc : 0 ≤ c.lo ∧ c.lo ≤ c.hi ∧ c.hi < 10000) : Ctr Try.prog 91 [SP a, SP c] (SP (addS a c)) := by
  have k := c91 a c
  have := ha.l
  have := ha.m
  have := ha.h
  rw [w64_id (by omega), w64_id (by omega)] at k
  exact k

set_option maxRecDepth 10000 in
theorem c57 (b : FB) (hv : VF b) (t : List Pa) (hg : GM b b.ones.length t) (who : Int) : Ctr Try.prog 57 [FK b, PS t, .int who] (SP (dwI b t who)) := by
  refine ctr_of_wp hmix Try.func57 m57 rfl ?_
  unfold v57 dwI
  have htl := gm_len hg
  have hn1 := hv.n1
  have hn2 := hv.n2
  have hbp := bp_of hv
  have hpl := hv.pl
  simp -failIfUnchanged (disch := first | omega | (simp <;> omega) | fail) only [go_sem, simprocAttr]
  refine wp_loop' Nat (fun k => ⟨[(1, PS t), (2, .int who), (3, .ptr 3 0), (6, .ptr 6 0), (7, .ptr 7 0), (8, .int k)], [(7, ⟨[.int (dwP b t who k).lo, .int (dwP b t who k).hi], false⟩), (6, ⟨[.int 0, .int 0], false⟩), (3, ⟨FKc b, false⟩)], [], none⟩) (fun k => k ≤ t.length) (fun k => t.length - k) 0 (by simp) (by simp -failIfUnchanged (disch := first | omega | (simp <;> omega) | fail) only [go_sem, simprocAttr]; simp [dwP]) ?_
  intro k hk
  have hk : k ≤ t.length := hk
  simp -failIfUnchanged (disch := first | omega | (simp <;> omega) | fail) only [go_sem, simprocAttr]
  refine wcond_dec (fun h1 => ?_) (fun h1 => ?_)
  · have hkl : k < t.length := by omega
    obtain ⟨p, q, e, hp, hq, hc⟩ := gm_at hg hkl
    have hst : dwP b t who (k + 1) = if (one b p).who = who then addS (dwP b t who k) (pcI b (one b p) (oth b q)) else dwP b t who k := by
      simp only [dwP, e, Int.toNat_natCast]
    have hbd := dwP_bd hv hg who k (by omega)
    have hvc := com_v2 hv hp hq hc
    have hfb : fitB (comL (one b p).cord (oth b q).cord) = true := by
      unfold comB at hc
      simp only [Bool.and_eq_true] at hc
      exact hc.2.2
    have x2 := (oth_v hv hq).c
    have hx2 := x2.n
    have k87 := c87 b hbp (one b p) (oth b q) (one_v hv hp).c x2 (by omega) hfb
    have k91 := c91s (dwP b t who k) (pcI b (one b p) (oth b q)) hbd (by omega) (ends_bd hv hvc)
    have g1 : b.ones[p]?.getD default = one b p := rfl
    have g2 : b.others[q]?.getD default = oth b q := rfl
    generalize dwP b t who k = S at *
    simp -failIfUnchanged (disch := first | omega | (simp <;> omega) | fail) only [go_sem, simprocAttr, e, g1]
    refine wcond_dec (fun h2 => ?_) (fun h2 => ?_)
    · rw [if_pos h2] at hst
      simp -failIfUnchanged (disch := first | omega | (simp <;> omega) | fail) only [go_sem, simprocAttr, e, g2]
      refine wcall k87 ?_
      simp -failIfUnchanged (disch := first | omega | (simp <;> omega) | fail) only [go_sem, simprocAttr]
      refine wcall k91 ?_
      simp -failIfUnchanged (disch := first | omega | (simp <;> omega) | fail) only [go_sem, simprocAttr]
      refine ⟨k + 1, by dsimp only; omega, by dsimp only; omega, ?_⟩
      dsimp only
      rw [hst]
      simp -failIfUnchanged (disch := first | omega | (simp <;> omega) | fail) only [go_sem, simprocAttr]
      try simp
    · rw [if_neg h2] at hst
      simp -failIfUnchanged (disch := first | omega | (simp <;> omega) | fail) only [go_sem, simprocAttr]
      refine ⟨k + 1, by dsimp only; omega, by dsimp only; omega, ?_⟩
      dsimp only
      rw [hst]
      simp -failIfUnchanged (disch := first | omega | (simp <;> omega) | fail) only [go_sem, simprocAttr]
      try simp
  · have ek : k = t.length := by omega
    subst ek
    have hbd0 := dwP_bd hv hg who t.length (Nat.le_refl _)
    generalize dwP b t who t.length = S0 at *
    simp -failIfUnchanged (disch := first | omega | (simp <;> omega) | fail) only [go_sem, simprocAttr]
    refine wp_loop' Nat (fun i => ⟨[(1, PS t), (2, .int who), (3, .ptr 3 0), (6, .ptr 6 0), (7, .ptr 7 0), (10, .int i)], [(7, ⟨[.int (dw1 b t who S0 i).lo, .int (dw1 b t who S0 i).hi], false⟩), (6, ⟨[.int 0, .int 0], false⟩), (3, ⟨FKc b, false⟩)], [], none⟩) (fun i => i ≤ b.ones.length) (fun i => b.ones.length - i) 0 (by simp) (by simp -failIfUnchanged (disch := first | omega | (simp <;> omega) | fail) only [go_sem, simprocAttr]; simp [dw1]) ?_
    intro i hi
    have hi : i ≤ b.ones.length := hi
    simp -failIfUnchanged (disch := first | omega | (simp <;> omega) | fail) only [go_sem, simprocAttr]
    refine wcond_dec (fun h2 => ?_) (fun h2 => ?_)
    · have hil : i < b.ones.length := by omega
      have hve := one_v hv hil
      have hst : dw1 b t who S0 (i + 1) = if (one b i).who = who ∧ inO t i = false then addS (dw1 b t who S0 i) (endsL b.base (one b i).cord) else dw1 b t who S0 i := rfl
      have hbd := dw1_bd hv t who hbd0 i (by omega)
      have k44 := c44 t i (by omega)
      have k92 := c92 b hbp _ (cd_iff.2 hve.c)
      have k91 := c91s (dw1 b t who S0 i) (endsL b.base (one b i).cord) hbd (by omega) (ends_bd hv hve.c)
      have g1 : b.ones[i]?.getD default = one b i := rfl
      obtain ⟨u, hu⟩ : ∃ u, (t.any fun p => decide (p.one = (i : Int))) = u := ⟨_, rfl⟩
      have hu2 : inO t i = u := hu
      rw [hu2] at hst
      rw [hu] at k44
      generalize dw1 b t who S0 i = S at *
      obtain ⟨w, hw⟩ : ∃ w, decide ((one b i).who = who) = w := ⟨_, rfl⟩
      simp -failIfUnchanged (disch := first | omega | (simp <;> omega) | fail) only [go_sem, simprocAttr, g1, hw]
      cases w with
      | false =>
        have hw := of_decide_eq_false hw
        rw [if_neg (fun x => hw x.1)] at hst
        simp -failIfUnchanged (disch := first | omega | (simp <;> omega) | fail) only [go_sem, simprocAttr]
        refine ⟨i + 1, by dsimp only; omega, by dsimp only; omega, ?_⟩
        dsimp only
        rw [hst]
        simp -failIfUnchanged (disch := first | omega | (simp <;> omega) | fail) only [go_sem, simprocAttr]
        try simp
      | true =>
        have hw := of_decide_eq_true hw
        simp -failIfUnchanged (disch := first | omega | (simp <;> omega) | fail) only [go_sem, simprocAttr]
        refine wcall k44 ?_
        cases u with
        | true =>
          rw [if_neg (fun x => by cases x.2)] at hst
          simp -failIfUnchanged (disch := first | omega | (simp <;> omega) | fail) only [go_sem, simprocAttr]
          refine ⟨i + 1, by dsimp only; omega, by dsimp only; omega, ?_⟩
          dsimp only
          rw [hst]
          simp -failIfUnchanged (disch := first | omega | (simp <;> omega) | fail) only [go_sem, simprocAttr]
          try simp
        | false =>
          rw [if_pos ⟨hw, rfl⟩] at hst
          simp -failIfUnchanged (disch := first | omega | (simp <;> omega) | fail) only [go_sem, simprocAttr, g1]
          refine wcall k92 ?_
          simp -failIfUnchanged (disch := first | omega | (simp <;> omega) | fail) only [go_sem, simprocAttr]
          refine wcall k91 ?_
          simp -failIfUnchanged (disch := first | omega | (simp <;> omega) | fail) only [go_sem, simprocAttr]
          refine ⟨i + 1, by dsimp only; omega, by dsimp only; omega, ?_⟩
          dsimp only
          rw [hst]
          simp -failIfUnchanged (disch := first | omega | (simp <;> omega) | fail) only [go_sem, simprocAttr]
          try simp
    · have ei : i = b.ones.length := by omega
      subst ei
      have hbd1 := dw1_bd hv t who hbd0 b.ones.length (Nat.le_refl _)
      generalize dw1 b t who S0 b.ones.length = S1 at *
      simp -failIfUnchanged (disch := first | omega | (simp <;> omega) | fail) only [go_sem, simprocAttr]
      refine wp_loop' Nat (fun i => ⟨[(1, PS t), (2, .int who), (3, .ptr 3 0), (6, .ptr 6 0), (7, .ptr 7 0), (11, .int i)], [(7, ⟨[.int (dw2 b t who S1 i).lo, .int (dw2 b t who S1 i).hi], false⟩), (6, ⟨[.int 0, .int 0], false⟩), (3, ⟨FKc b, false⟩)], [], none⟩) (fun i => i ≤ b.others.length) (fun i => b.others.length - i) 0 (by simp) (by simp -failIfUnchanged (disch := first | omega | (simp <;> omega) | fail) only [go_sem, simprocAttr]; simp [dw2]) ?_
      intro i hi
      have hi : i ≤ b.others.length := hi
      simp -failIfUnchanged (disch := first | omega | (simp <;> omega) | fail) only [go_sem, simprocAttr]
      refine wcond_dec (fun h2 => ?_) (fun h2 => ?_)
      · have hil : i < b.others.length := by omega
        have hve := oth_v hv hil
        have hst : dw2 b t who S1 (i + 1) = if (oth b i).who = who ∧ inT t i = false then addS (dw2 b t who S1 i) (endsL b.base (oth b i).cord) else dw2 b t who S1 i := rfl
        have hbd := dw2_bd hv t who hbd1 i (by omega)
        have k45 := c45 t i (by omega)
        have k92 := c92 b hbp _ (cd_iff.2 hve.c)
        have k91 := c91s (dw2 b t who S1 i) (endsL b.base (oth b i).cord) hbd (by omega) (ends_bd hv hve.c)
        have g1 : b.others[i]?.getD default = oth b i := rfl
        obtain ⟨u, hu⟩ : ∃ u, (t.any fun p => decide (p.other = (i : Int))) = u := ⟨_, rfl⟩
        have hu2 : inT t i = u := hu
        rw [hu2] at hst
        rw [hu] at k45
        generalize dw2 b t who S1 i = S at *
        obtain ⟨w, hw⟩ : ∃ w, decide ((oth b i).who = who) = w := ⟨_, rfl⟩
        simp -failIfUnchanged (disch := first | omega | (simp <;> omega) | fail) only [go_sem, simprocAttr, g1, hw]
        cases w with
        | false =>
          have hw := of_decide_eq_false hw
          rw [if_neg (fun x => hw x.1)] at hst
          simp -failIfUnchanged (disch := first | omega | (simp <;> omega) | fail) only [go_sem, simprocAttr]
          refine ⟨i + 1, by dsimp only; omega, by dsimp only; omega, ?_⟩
          dsimp only
          rw [hst]
          simp -failIfUnchanged (disch := first | omega | (simp <;> omega) | fail) only [go_sem, simprocAttr]
          try simp
        | true =>
          have hw := of_decide_eq_true hw
          simp -failIfUnchanged (disch := first | omega | (simp <;> omega) | fail) only [go_sem, simprocAttr]
          refine wcall k45 ?_
          cases u with
          | true =>
            rw [if_neg (fun x => by cases x.2)] at hst
            simp -failIfUnchanged (disch := first | omega | (simp <;> omega) | fail) only [go_sem, simprocAttr]
            refine ⟨i + 1, by dsimp only; omega, by dsimp only; omega, ?_⟩
            dsimp only
            rw [hst]
            simp -failIfUnchanged (disch := first | omega | (simp <;> omega) | fail) only [go_sem, simprocAttr]
            try simp
          | false =>
            rw [if_pos ⟨hw, rfl⟩] at hst
            simp -failIfUnchanged (disch := first | omega | (simp <;> omega) | fail) only [go_sem, simprocAttr, g1]
            refine wcall k92 ?_
            simp -failIfUnchanged (disch := first | omega | (simp <;> omega) | fail) only [go_sem, simprocAttr]
            refine wcall k91 ?_
            simp -failIfUnchanged (disch := first | omega | (simp <;> omega) | fail) only [go_sem, simprocAttr]
            refine ⟨i + 1, by dsimp only; omega, by dsimp only; omega, ?_⟩
            dsimp only
            rw [hst]
            simp -failIfUnchanged (disch := first | omega | (simp <;> omega) | fail) only [go_sem, simprocAttr]
            try simp
      · have ei : i = b.others.length := by omega
        subst ei
        simp -failIfUnchanged (disch := first | omega | (simp <;> omega) | fail) only [go_sem, simprocAttr]
        try simp

end Go.Proofs.Ytemnojaoickjfaa

/- What a person owes by a matching: both sides' sums are the same. -/
set_option linter.unusedSimpArgs false
set_option linter.unusedVariables false
set_option linter.unnecessarySimpa false
namespace Go.Proofs.Ytemnojaoickjfaa
open Go Go.V

def zS : Sp := ⟨0, 0⟩
theorem sp_ext {a c : Sp} (h1 : a.lo = c.lo) (h2 : a.hi = c.hi) : a = c := by
  cases a; cases c; simp at h1 h2; rw [h1, h2]
theorem addS_comm (a c : Sp) : addS a c = addS c a := sp_ext (Int.add_comm _ _) (Int.add_comm _ _)
theorem addS_assoc (a c d : Sp) : addS (addS a c) d = addS a (addS c d) := sp_ext (Int.add_assoc _ _ _) (Int.add_assoc _ _ _)
theorem addS_z (a : Sp) : addS a zS = a := sp_ext (Int.add_zero _) (Int.add_zero _)
theorem z_addS (a : Sp) : addS zS a = a := sp_ext (Int.zero_add _) (Int.zero_add _)
theorem addS_4 (a c d e : Sp) : addS (addS a c) (addS d e) = addS (addS a d) (addS c e) := sp_ext (by unfold addS; dsimp only; omega) (by unfold addS; dsimp only; omega)
def sS (f : Nat → Sp) : Nat → Sp
  | 0 => zS
  | n + 1 => addS (sS f n) (f n)
def lS (F : Pa → Sp) : List Pa → Sp
  | [] => zS
  | p :: r => addS (F p) (lS F r)
theorem sS_add (f g : Nat → Sp) : ∀ n, sS (fun j => addS (f j) (g j)) n = addS (sS f n) (sS g n)
  | 0 => (addS_z zS).symm
  | n + 1 => by
    unfold sS
    rw [sS_add f g n, addS_4]
theorem sS_congr {f g : Nat → Sp} : ∀ {n : Nat}, (∀ j, j < n → f j = g j) → sS f n = sS g n
  | 0, _ => rfl
  | n + 1, h => by
    unfold sS
    rw [sS_congr (fun j hj => h j (by omega)), h n (by omega)]
theorem sS_z : ∀ n, sS (fun _ => zS) n = zS
  | 0 => rfl
  | n + 1 => by unfold sS; rw [sS_z n, addS_z]
theorem sS_one (c : Nat) (x : Sp) : ∀ n, sS (fun j => if c = j then x else zS) n = if c < n then x else zS
  | 0 => rfl
  | n + 1 => by
    unfold sS
    rw [sS_one c x n]
    by_cases h : c < n
    · rw [if_pos h, if_neg (by omega), if_pos (by omega), addS_z]
    · rw [if_neg h]
      by_cases e : c = n
      · rw [if_pos e, if_pos (by omega), z_addS]
      · rw [if_neg e, if_neg (by omega), addS_z]
theorem lS_app (F : Pa → Sp) : ∀ (l r : List Pa), lS F (l ++ r) = addS (lS F l) (lS F r)
  | [], r => (z_addS _).symm
  | p :: l, r => by
    show addS (F p) (lS F (l ++ r)) = _
    rw [lS_app F l r, ← addS_assoc]
    rfl
theorem lS_perm (F : Pa → Sp) {l r : List Pa} (h : l.Perm r) : lS F l = lS F r := by
  induction h with
  | nil => rfl
  | cons x _ ih => unfold lS; rw [ih]
  | swap x y l =>
    show addS (F y) (addS (F x) (lS F l)) = addS (F x) (addS (F y) (lS F l))
    rw [← addS_assoc, ← addS_assoc, addS_comm (F y)]
  | trans _ _ h1 h2 => rw [h1, h2]
theorem lS_congr {F G : Pa → Sp} : ∀ {l : List Pa}, (∀ p ∈ l, F p = G p) → lS F l = lS G l
  | [], _ => rfl
  | p :: l, h => by
    unfold lS
    rw [h p (by simp), lS_congr fun q hq => h q (by simp [hq])]

/-- What the pair of an entry adds. -/
def hitS (F : Pa → Sp) : List Pa → Nat → Sp
  | [], _ => zS
  | p :: r, j => if p.other = (j : Int) then F p else hitS F r j
theorem hitS_no (F : Pa → Sp) : ∀ {l : List Pa} {j : Nat}, (∀ p ∈ l, p.other ≠ (j : Int)) → hitS F l j = zS
  | [], _, _ => rfl
  | p :: r, j, h => by
    unfold hitS
    rw [if_neg (h p (by simp)), hitS_no F fun q hq => h q (by simp [hq])]
theorem hitS_at (F : Pa → Sp) : ∀ {l : List Pa} {j : Nat} {p : Pa}, (l.Pairwise fun p q => p.other ≠ q.other) → p ∈ l → p.other = (j : Int) → hitS F l j = F p
  | [], _, _, _, h, _ => by simp at h
  | q :: r, j, p, hd, hp, hj => by
    unfold hitS
    rcases List.mem_cons.1 hp with rfl | hp
    · rw [if_pos hj]
    · have := (List.pairwise_cons.1 hd).1 p hp
      rw [if_neg (fun e => this (by rw [e, hj])), hitS_at F (List.pairwise_cons.1 hd).2 hp hj]
theorem sS_hit (F : Pa → Sp) (n : Nat) : ∀ {l : List Pa}, (l.Pairwise fun p q => p.other ≠ q.other) → (∀ p ∈ l, 0 ≤ p.other ∧ p.other < (n : Int)) → sS (hitS F l) n = lS F l
  | [], _, _ => sS_z n
  | p :: r, hd, hb => by
    have ih := sS_hit F n (List.pairwise_cons.1 hd).2 fun q hq => hb q (by simp [hq])
    have hp := hb p (by simp)
    have e : sS (hitS F (p :: r)) n = sS (fun j => addS (if p.other.toNat = j then F p else zS) (hitS F r j)) n := by
      refine sS_congr fun j hj => ?_
      show (if p.other = (j : Int) then F p else hitS F r j) = _
      by_cases e : p.other = (j : Int)
      · rw [if_pos e, if_pos (by omega), hitS_no F fun q hq => by
          have := (List.pairwise_cons.1 hd).1 q hq
          intro e2
          exact this (by rw [e, e2]), addS_z]
      · rw [if_neg e, if_neg (by omega), z_addS]
    rw [e, sS_add, sS_one, if_pos (by omega), ih]
    rfl

/-! The sums. -/
def prF (b : FB) (who : Int) (p : Pa) : Sp := if (one b p.one.toNat).who = who then pcI b (one b p.one.toNat) (oth b p.other.toNat) else zS
def onF (b : FB) (t : List Pa) (who : Int) (i : Nat) : Sp := if (one b i).who = who ∧ inO t i = false then endsL b.base (one b i).cord else zS
def otF (b : FB) (t : List Pa) (who : Int) (j : Nat) : Sp := if (oth b j).who = who ∧ inT t j = false then endsL b.base (oth b j).cord else zS
def owC (b : FB) (t : List Pa) (who : Int) : Sp := addS (lS (prF b who) t) (addS (sS (onF b t who) b.ones.length) (sS (otF b t who) b.others.length))

theorem dwP_eq (b : FB) (t : List Pa) (who : Int) : ∀ k, k ≤ t.length → dwP b t who k = lS (prF b who) (t.take k)
  | 0, _ => by simp [dwP, lS, zS]
  | k + 1, h => by
    have ih := dwP_eq b t who k (by omega)
    obtain ⟨p, hp⟩ : ∃ p, t[k]?.getD default = p := ⟨_, rfl⟩
    have hts : t.take (k + 1) = t.take k ++ [p] := by
      have e2 : t[k] = p := by rw [← hp, List.getElem?_eq_getElem (by omega)]; rfl
      rw [List.take_add_one, List.getElem?_eq_getElem (by omega), e2]; rfl
    unfold dwP
    rw [hp, hts, lS_app, ← ih]
    unfold lS lS prF
    by_cases h1 : (one b p.one.toNat).who = who
    · rw [if_pos h1, if_pos h1, addS_z]
    · rw [if_neg h1, if_neg h1, addS_z, addS_z]
theorem dw1_eq (b : FB) (t : List Pa) (who : Int) (s : Sp) : ∀ k, dw1 b t who s k = addS s (sS (onF b t who) k)
  | 0 => (addS_z s).symm
  | k + 1 => by
    unfold dw1 sS
    rw [dw1_eq b t who s k]
    unfold onF
    split
    · rw [addS_assoc]
    · rw [addS_z]
theorem dw2_eq (b : FB) (t : List Pa) (who : Int) (s : Sp) : ∀ k, dw2 b t who s k = addS s (sS (otF b t who) k)
  | 0 => (addS_z s).symm
  | k + 1 => by
    unfold dw2 sS
    rw [dw2_eq b t who s k]
    unfold otF
    split
    · rw [addS_assoc]
    · rw [addS_z]
theorem dw_eq (b : FB) (t : List Pa) (who : Int) : dwI b t who = owC b t who := by
  unfold dwI owC
  rw [dw2_eq, dw1_eq, dwP_eq b t who _ (Nat.le_refl _), List.take_length, addS_assoc]
theorem ow1_eq (b : FB) (t : List Pa) (who : Int) : ∀ k, ow1K b t who k = sS (onF b t who) k
  | 0 => rfl
  | k + 1 => by
    unfold ow1K sS
    rw [ow1_eq b t who k]
    unfold onF
    by_cases h : (one b k).who = who ∧ inO t k = false
    · rw [if_pos ⟨h.2, h.1⟩, if_pos h]
    · rw [if_neg (fun x => h ⟨x.2, x.1⟩), if_neg h, addS_z]
theorem any_inT {t : List Pa} {j : Nat} : inT t j = false ↔ ∀ p ∈ t, p.other ≠ (j : Int) := by
  unfold inT
  rw [List.any_eq_false]
  simp
theorem idx_neg {α : Type} {p : α → Bool} {l : List α} : idxF p l < 0 ↔ l.any p = false := by
  unfold idxF
  cases h : l.any p with
  | true => simp
  | false => simp
theorem oth_eq {b : FB} {t : List Pa} (hg : GM b b.ones.length t) (who : Int) {j : Nat} (hj : j < b.others.length) : (if (oth b j).who = who then othS b t j else zS) = addS (hitS (prF b who) t j) (otF b t who j) := by
  unfold othS otF
  by_cases hn : idxF (fun p : Pa => decide (p.other = (j : Int))) t < 0
  · rw [if_pos hn]
    have h1 := idx_neg.1 hn
    have h2 : inT t j = false := h1
    rw [hitS_no _ (any_inT.1 h2), z_addS]
    by_cases h : (oth b j).who = who
    · rw [if_pos h, if_pos ⟨h, h2⟩]
    · rw [if_neg h, if_neg (fun x => h x.1)]
  · rw [if_neg hn]
    obtain ⟨k, e1, hk, hkp⟩ := idx_at hn
    obtain ⟨p, q, e, hp, hq, hc⟩ := gm_at hg hk
    rw [e1, Int.toNat_natCast, e]
    rw [e] at hkp
    have hkp := of_decide_eq_true hkp
    dsimp only at hkp
    have : q = j := by omega
    subst this
    have h2 : inT t q = true := by
      cases h : inT t q with
      | true => rfl
      | false => exact absurd (idx_neg.2 h) hn
    have hmem : (⟨(p : Int), (q : Int)⟩ : Pa) ∈ t := by rw [← e]; exact mem_getD hk
    have hnn : ¬ ((oth b q).who = who ∧ true = false) := by simp
    rw [hitS_at (prF b who) hg.d hmem rfl, h2, if_neg hnn, addS_z]
    unfold prF
    dsimp only
    simp only [Int.toNat_natCast]
    have hw : (one b p).who = (oth b q).who := by
      unfold comB at hc
      simp only [Bool.and_eq_true, decide_eq_true_eq] at hc
      exact hc.1
    rw [hw]
theorem ow2_eq {b : FB} {t : List Pa} (hg : GM b b.ones.length t) (who : Int) (s : Sp) : ∀ k, k ≤ b.others.length → ow2K b t who s k = addS s (sS (fun j => addS (hitS (prF b who) t j) (otF b t who j)) k)
  | 0, _ => (addS_z s).symm
  | k + 1, h => by
    unfold ow2K sS
    rw [ow2_eq hg who s k (by omega), ← oth_eq hg who (by omega)]
    split
    · rw [addS_assoc]
    · rw [addS_z]
/-- What the program adds. -/
theorem ow_eq {b : FB} {t : List Pa} (hg : GM b b.ones.length t) (who : Int) : owdI b t who = owC b t who := by
  unfold owdI owC
  rw [ow2_eq hg who _ _ (Nat.le_refl _), sS_add, ow1_eq, sS_hit _ _ hg.d (fun p hp => (hg.p p hp).2.1), ← addS_assoc, addS_comm (sS (onF b t who) _), addS_assoc]

end Go.Proofs.Ytemnojaoickjfaa

/- FinesOwed. -/
set_option linter.unusedSimpArgs false
set_option linter.unusedVariables false
set_option linter.unnecessarySimpa false
namespace Go.Proofs.Ytemnojaoickjfaa
open Go Go.V

theorem c57o (b : FB) (hv : VF b) (t : List Pa) (hg : GM b b.ones.length t) (who : Int) : Ctr Try.prog 57 [FK b, PS t, .int who] (SP (owdI b t who)) := by
  have := c57 b hv t hg who
  rw [dw_eq, ← ow_eq hg] at this
  exact this

theorem c30 (b : FB) (hs : SmF b) (who : Int) : Ctr Try.prog 30 [FK b, .int who] (owdR b who) := by
  refine ctr_of_wp hmix Try.func30 m30 rfl ?_
  unfold v30 owdR
  have a1 := c75 b who
  have a2 := c74 b hs (within who 0 (w64 (b.persons - 1)))
  obtain ⟨e, hE⟩ : ∃ e, owE b who = e := ⟨_, rfl⟩
  have hE' : askF b (within who 0 (w64 (b.persons - 1))) = e := hE
  rw [hE'] at a2
  rw [hE]
  simp -failIfUnchanged (disch := first | omega | (simp <;> omega) | fail) only [go_sem, simprocAttr]
  refine wcall a1 ?_
  simp -failIfUnchanged (disch := first | omega | (simp <;> omega) | fail) only [go_sem, simprocAttr]
  refine wcall a2 ?_
  by_cases h0 : e = 0
  · subst h0
    obtain ⟨hc, _⟩ := pr_0 hE'
    have hv := vf_of hc
    have k2 := c66 b hv
    have hne := lrgL_ne b
    have hgm : ∀ x ∈ lrgL b, GM b b.ones.length x := fun x hx => (mem_lrg.1 hx).1
    have h0 : 0 < (lrgL b).length := List.length_pos_iff.2 hne
    have hsm := lrg_small hv
    generalize lrgL b = M at k2 hgm h0 hsm ⊢
    have c57a : ∀ i, i < M.length → Ctr Try.prog 57 [FK b, PS (M[i]?.getD default), .int who] (SP (owdI b (M[i]?.getD default) who)) := fun i hi => c57o b hv _ (hgm _ (mem_getD hi)) who
    have hat : ∀ i, i < M.length → (M.map PS)[i]?.getD .nul = PS (M[i]?.getD default) := fun i hi => by simp [hi]
    have c0 := c57a 0 h0
    have e0 := hat 0 h0
    simp -failIfUnchanged (disch := first | omega | (simp <;> omega) | fail) only [go_sem, simprocAttr]
    refine wcall k2 ?_
    simp -failIfUnchanged (disch := first | omega | (simp <;> omega) | fail) only [go_sem, simprocAttr, e0]
    refine wcall c0 ?_
    simp -failIfUnchanged (disch := first | omega | (simp <;> omega) | fail) only [go_sem, simprocAttr]
    refine wp_loop' Nat (fun i => ⟨[(1, .int who), (2, .ptr 2 0), (4, .ptr 4 0), (7, .sl 1 (M.map PS) .sh), (8, .ptr 8 0), (9, .int i)],
        [(8, ⟨[.int (rgK b who M i).lo, .int (rgK b who M i).hi], false⟩), (4, ⟨[.int 0, .int 0], false⟩), (2, ⟨FKc b, false⟩)], [], none⟩) (fun i => i ≤ M.length) (fun i => M.length - i) 0 (by simp) (by simp -failIfUnchanged (disch := first | omega | (simp <;> omega) | fail) only [go_sem, simprocAttr]; simp [rgK]) ?_
    intro i hi
    have hi : i ≤ M.length := hi
    simp -failIfUnchanged (disch := first | omega | (simp <;> omega) | fail) only [go_sem, simprocAttr]
    refine wcond_dec (fun h1 => ?_) (fun h1 => ?_)
    · have hil : i < M.length := by omega
      have c1 := c57a i hil
      have e1 := hat i hil
      have hst : rgK b who M (i + 1) = ⟨min (rgK b who M i).lo (owdI b (M[i]?.getD default) who).lo, max (rgK b who M i).hi (owdI b (M[i]?.getD default) who).hi⟩ := rfl
      simp -failIfUnchanged (disch := first | omega | (simp <;> omega) | fail) only [go_sem, simprocAttr, e1]
      refine wcall c1 ?_
      simp -failIfUnchanged (disch := first | omega | (simp <;> omega) | fail) only [go_sem, simprocAttr]
      refine ⟨i + 1, by dsimp only; omega, by dsimp only; omega, ?_⟩
      dsimp only
      rw [hst]
      simp -failIfUnchanged (disch := first | omega | (simp <;> omega) | fail) only [go_sem, simprocAttr]
      try simp
    · have e : i = M.length := by omega
      subst e
      simp -failIfUnchanged (disch := first | omega | (simp <;> omega) | fail) only [go_sem, simprocAttr]
      try simp
  · have hd : decide (¬ e = 0) = true := decide_eq_true h0
    simp -failIfUnchanged (disch := first | omega | (simp <;> omega) | fail) only [go_sem, simprocAttr, hd]
    simp [h0]

theorem c6 (b : FB) (who : Int) : Ctr Try.prog 6 [FK b, .int who] (.bool true) := by
  refine ctr_of_wp hmix Try.func6 m6 rfl ?_
  unfold v6
  simp -failIfUnchanged (disch := first | omega | (simp <;> omega) | fail) only [go_sem, simprocAttr]
  refine wcall (c14 b) ?_
  cases hf : farF b with
  | true =>
    simp -failIfUnchanged (disch := first | omega | (simp <;> omega) | fail) only [go_sem, simprocAttr]
    refine wcall c15 ?_
    simp -failIfUnchanged (disch := first | omega | (simp <;> omega) | fail) only [go_sem, simprocAttr]
  | false =>
    have hs := far_f hf
    have a1 := c28 b hs
    have a2 := c29 b hs
    have a3 := c25 b hs who
    have a4 := c30 b hs who
    have a5 := c31 b hs
    unfold fewR at a1 a2
    unfold owdR at a3 a4
    unfold matR at a5
    cases hc : chkB b with
    | false =>
      have he : errF b = 130 := by unfold errF; rw [hc]; rfl
      have hno : decide (¬ (130 : Int) = 0) = true := by decide
      rw [hc, he] at a1 a2 a5
      simp -failIfUnchanged (disch := first | omega | (simp <;> omega) | fail) only [go_sem, simprocAttr]
      refine wcall (c16 b hs) ?_
      simp -failIfUnchanged (disch := first | omega | (simp <;> omega) | fail) only [go_sem, simprocAttr]
      refine wcall a1 ?_
      simp -failIfUnchanged (disch := first | omega | (simp <;> omega) | fail) only [go_sem, simprocAttr]
      refine wcall a2 ?_
      simp -failIfUnchanged (disch := first | omega | (simp <;> omega) | fail) only [go_sem, simprocAttr]
      refine wcall a3 ?_
      simp -failIfUnchanged (disch := first | omega | (simp <;> omega) | fail) only [go_sem, simprocAttr]
      refine wcall a4 ?_
      simp -failIfUnchanged (disch := first | omega | (simp <;> omega) | fail) only [go_sem, simprocAttr]
      refine wcall a5 ?_
      simp -failIfUnchanged (disch := first | omega | (simp <;> omega) | fail) only [go_sem, simprocAttr, eq_self]
      refine wcall (c21 b hs) ?_
      simp -failIfUnchanged (disch := first | omega | (simp <;> omega) | fail) only [go_sem, simprocAttr, hno]
      refine wcall c15 ?_
      simp -failIfUnchanged (disch := first | omega | (simp <;> omega) | fail) only [go_sem, simprocAttr]
    | true =>
      have he : errF b = 0 := by unfold errF; rw [hc]; rfl
      have hno : decide (¬ (0 : Int) = 0) = false := by decide
      have hv := vf_of hc
      have hn1 := hv.n1
      have hn2 := hv.n2
      have hg : GM b b.ones.length (fstM b) := (mem_lrg.1 (fst_most b).1).1
      have hfl := fst_len hv
      have a6 := c32 b hv (fstM b) (by omega)
      rw [(mat_gm hv).2 hg] at a6
      have hfe : fewI b = (b.ones.length : Int) + b.others.length - (fstM b).length := rfl
      rw [hc, he] at a1 a2 a5
      simp only [if_true] at a1 a2 a5
      generalize fstM b = F at *
      generalize fewI b = W at *
      subst hfe
      simp -failIfUnchanged (disch := first | omega | (simp <;> omega) | fail) only [go_sem, simprocAttr]
      refine wcall (c16 b hs) ?_
      simp -failIfUnchanged (disch := first | omega | (simp <;> omega) | fail) only [go_sem, simprocAttr]
      refine wcall a1 ?_
      simp -failIfUnchanged (disch := first | omega | (simp <;> omega) | fail) only [go_sem, simprocAttr]
      refine wcall a2 ?_
      simp -failIfUnchanged (disch := first | omega | (simp <;> omega) | fail) only [go_sem, simprocAttr]
      refine wcall a3 ?_
      simp -failIfUnchanged (disch := first | omega | (simp <;> omega) | fail) only [go_sem, simprocAttr]
      refine wcall a4 ?_
      simp -failIfUnchanged (disch := first | omega | (simp <;> omega) | fail) only [go_sem, simprocAttr]
      refine wcall a5 ?_
      simp -failIfUnchanged (disch := first | omega | (simp <;> omega) | fail) only [go_sem, simprocAttr, eq_self]
      refine wcall (c21 b hs) ?_
      simp -failIfUnchanged (disch := first | omega | (simp <;> omega) | fail) only [go_sem, simprocAttr, hno]
      refine wcall a6 ?_
      have e9 : decide ((F.length : Int) = (b.ones.length : Int) + b.others.length - ((b.ones.length : Int) + b.others.length - F.length)) = true := decide_eq_true (by omega)
      simp -failIfUnchanged (disch := first | omega | (simp <;> omega) | fail) only [go_sem, simprocAttr, e9]
      refine wcall c15 ?_
      simp -failIfUnchanged (disch := first | omega | (simp <;> omega) | fail) only [go_sem, simprocAttr]

end Go.Proofs.Ytemnojaoickjfaa

/- Maps with pairs as keys; Must. -/
set_option linter.unusedSimpArgs false
set_option linter.unusedVariables false
set_option linter.unnecessarySimpa false
namespace Go.Proofs.Ytemnojaoickjfaa
open Go Go.V Go.WideShapes

theorem bid_nilp : AV.bid .nilp = [] := rfl
theorem strip_nilp {hp : HpL} : strip hp .nilp = .nilp := rfl
theorem isUnd_nilp : AV.isUnd .nilp = false := rfl
theorem bid_mpr {l : Nat} : AV.bid (.mpr l) = [] := rfl
theorem strip_mpr {hp : HpL} {l : Nat} : strip hp (.mpr l) = .mpr l := rfl
theorem isUnd_mpr {l : Nat} : AV.isUnd (.mpr l) = false := rfl
theorem inS_mpr {τ : AS} {l : Nat} : inScope τ (.mpr l) = True := rfl
attribute [go_sem] inS_mpr bid_nilp strip_nilp isUnd_nilp bid_mpr strip_mpr isUnd_mpr

end Go.Proofs.Ytemnojaoickjfaa

/- The document's Must and Alone; Twice; FinesMust. -/
set_option linter.unusedSimpArgs false
set_option linter.unusedVariables false
set_option linter.unnecessarySimpa false
namespace Go.Proofs.Ytemnojaoickjfaa
open Go Go.V

end Go.Proofs.Ytemnojaoickjfaa

/- Twice; FinesMust. -/
set_option linter.unusedSimpArgs false
set_option linter.unusedVariables false
set_option linter.unnecessarySimpa false
namespace Go.Proofs.Ytemnojaoickjfaa
open Go Go.V

/-- The pairs of a book's entries that could be one: row by row. -/
def twP (late : Int) (l : List En) (i k : Nat) : Bool := decide (i < k) && comB late (l[i]?.getD default) (l[k]?.getD default)
def twR (late : Int) (l : List En) (i m : Nat) : List Pa := ((List.range m).filter (twP late l i)).map fun k : Nat => (⟨(i : Int), (k : Int)⟩ : Pa)
def twK (late : Int) (l : List En) : Nat → List Pa
  | 0 => []
  | i + 1 => twK late l i ++ twR late l i l.length
def twcR (b : FB) (n : Int) : AV := .tup [PS (if bkE b n = 0 then twK b.late (bokL b n) (bokL b n).length else []), .int (bkE b n)]
theorem twR_succ (late : Int) (l : List En) (i m : Nat) : twR late l i (m + 1) = twR late l i m ++ (if twP late l i m then [⟨(i : Int), (m : Int)⟩] else []) := by
  unfold twR
  rw [List.range_succ, List.filter_append, List.map_append]
  congr 1
  by_cases h : twP late l i m <;> simp [h]
theorem twR_0 (late : Int) (l : List En) (i : Nat) : twR late l i (i + 1) = [] := by
  unfold twR
  have : (List.range (i + 1)).filter (twP late l i) = [] := by
    rw [List.filter_eq_nil_iff]
    intro k hk
    have := List.mem_range.1 hk
    have : decide (i < k) = false := decide_eq_false (by omega)
    simp [twP, this]
  rw [this]
  rfl
theorem twR_len (late : Int) (l : List En) (i m : Nat) : (twR late l i m).length ≤ m := by
  unfold twR
  rw [List.length_map]
  exact Nat.le_trans (List.length_filter_le _ _) (by simp)
theorem twK_len (late : Int) (l : List En) : ∀ i, (twK late l i).length ≤ i * l.length
  | 0 => by simp [twK]
  | i + 1 => by
    unfold twK
    rw [List.length_append, Nat.succ_mul]
    have := twK_len late l i
    have := twR_len late l i l.length
    omega
theorem bok_v {b : FB} (hv : VF b) {n : Int} {i : Nat} (h : i < (bokL b n).length) : VE b ((bokL b n)[i]?.getD default) := by
  have := mem_getD h
  unfold bokL at this ⊢
  by_cases e : n = 0
  · rw [if_pos e] at this ⊢; exact hv.e1 _ this
  · rw [if_neg e] at this ⊢; exact hv.e2 _ this
theorem bok_5 {b : FB} (hv : VF b) (n : Int) : (bokL b n).length ≤ 5 := by
  have := hv.n1
  have := hv.n2
  unfold bokL
  split <;> omega

set_option maxRecDepth 10000 in
theorem c60 (b : FB) (hs : SmF b) (n : Int) : Ctr Try.prog 60 [FK b, .int n] (twcR b n) := by
  refine ctr_of_wp hmix Try.func60 m60 rfl ?_
  unfold v60 twcR
  have a1 := c71 n 0 1
  have a2 := c70 b hs (within n 0 1)
  obtain ⟨e, hE⟩ : ∃ e, bkE b n = e := ⟨_, rfl⟩
  have hE' : askF b (within n 0 1) = e := hE
  rw [hE'] at a2
  rw [hE]
  simp -failIfUnchanged (disch := first | omega | (simp <;> omega) | fail) only [go_sem, simprocAttr]
  refine wcall a1 ?_
  simp -failIfUnchanged (disch := first | omega | (simp <;> omega) | fail) only [go_sem, simprocAttr]
  refine wcall a2 ?_
  by_cases h0 : e = 0
  · subst h0
    obtain ⟨hc, hw⟩ := pr_0 hE'
    have hv := vf_of hc
    have k3 := c73 b n
    have hl5 := bok_5 hv n
    have hve : ∀ i, i < (bokL b n).length → VE b ((bokL b n)[i]?.getD default) := fun i hi => bok_v hv hi
    generalize bokL b n = l at k3 hl5 hve ⊢
    have hpl := hv.pl
    simp -failIfUnchanged (disch := first | omega | (simp <;> omega) | fail) only [go_sem, simprocAttr]
    refine wcall k3 ?_
    simp -failIfUnchanged (disch := first | omega | (simp <;> omega) | fail) only [go_sem, simprocAttr]
    refine wp_loop' Nat (fun i => ⟨[(2, .ptr 2 0), (7, ES l), (9, .sl 2 ((twK b.late l i).map PA) (.own 9)), (28, ES l), (29, .int l.length), (30, .int i)], [(2, ⟨FKc b, false⟩)], [(9, (twK b.late l i).length)], none⟩) (fun i => i ≤ l.length) (fun i => l.length - i) 0 (by simp) (by simp -failIfUnchanged (disch := first | omega | (simp <;> omega) | fail) only [go_sem, simprocAttr]; simp [twK]) ?_
    intro i hi
    have hi : i ≤ l.length := hi
    have hkl := twK_len b.late l i
    have hkl2 : i * l.length ≤ 25 := by have := Nat.mul_le_mul (show i ≤ 5 by omega) hl5; omega
    simp -failIfUnchanged (disch := first | omega | (simp <;> omega) | fail) only [go_sem, simprocAttr]
    refine wcond_dec (fun h1 => ?_) (fun h1 => ?_)
    · have hil : i < l.length := by omega
      obtain ⟨x, hx⟩ : ∃ x, l[i]?.getD default = x := ⟨_, rfl⟩
      have hvx := hve i hil
      rw [hx] at hvx
      have hks : twK b.late l (i + 1) = twK b.late l i ++ twR b.late l i l.length := rfl
      simp -failIfUnchanged (disch := first | omega | (simp <;> omega) | fail) only [go_sem, simprocAttr, hx]
      refine wp_loop' Nat (fun k => ⟨[(2, .ptr 2 0), (7, ES l), (9, .sl 2 ((twK b.late l i ++ twR b.late l i k).map PA) (.own 9)), (10, .int i), (11, .ptr 11 0), (12, .int k), (28, ES l), (29, .int l.length), (30, .int i)],
        [(11, ⟨[.int x.day, .int x.who, SS x.cord], false⟩), (2, ⟨FKc b, false⟩)], [(9, (twK b.late l i ++ twR b.late l i k).length)], none⟩) (fun k => i < k ∧ k ≤ l.length) (fun k => l.length - k) (i + 1) ⟨by omega, by omega⟩ (by rw [twR_0]; simp -failIfUnchanged (disch := first | omega | (simp <;> omega) | fail) only [go_sem, simprocAttr]; simp) ?_
      rintro k ⟨hik, hk⟩
      have hrl := twR_len b.late l i k
      have hal : (twK b.late l i ++ twR b.late l i k).length ≤ 100 := by rw [List.length_append]; omega
      have hrs3 : twK b.late l i ++ twR b.late l i (k + 1) = (twK b.late l i ++ twR b.late l i k) ++ (if twP b.late l i k then [⟨(i : Int), (k : Int)⟩] else []) := by rw [twR_succ, List.append_assoc]
      have hks2 : k = l.length → twK b.late l (i + 1) = twK b.late l i ++ twR b.late l i k := fun e => by subst e; rfl
      generalize twK b.late l i ++ twR b.late l i k = A at hal hrs3 hks2 ⊢
      simp -failIfUnchanged (disch := first | omega | (simp <;> omega) | fail) only [go_sem, simprocAttr]
      refine wcond_dec (fun h2 => ?_) (fun h2 => ?_)
      · have hkl : k < l.length := by omega
        obtain ⟨y, hy⟩ : ∃ y, l[k]?.getD default = y := ⟨_, rfl⟩
        have hvy := hve k hkl
        rw [hy] at hvy
        have hn2 := hvy.c.n
        have k79 := c79 b.late x y (by rw [both_len hvx.c hvy.c]; exact Nat.le_refl _) (by omega)
        have htp : twP b.late l i k = comB b.late x y := by
          unfold twP
          rw [hx, hy, decide_eq_true hik, Bool.true_and]
        have hrs2 := hrs3
        rw [htp] at hrs2
        simp -failIfUnchanged (disch := first | omega | (simp <;> omega) | fail) only [go_sem, simprocAttr, hy]
        refine wcall k79 ?_
        simp -failIfUnchanged (disch := first | omega | (simp <;> omega) | fail) only [go_sem, simprocAttr]
        cases hcm : comB b.late x y with
        | true =>
          rw [hcm] at hrs2
          simp -failIfUnchanged (disch := first | omega | (simp <;> omega) | fail) only [go_sem, simprocAttr]
          refine ⟨k + 1, ⟨by omega, by omega⟩, by dsimp only; omega, ?_⟩
          dsimp only
          have hln := congrArg List.length hrs2
          simp only [List.length_append, if_true, Bool.false_eq_true, if_false, List.length_cons, List.length_nil] at hln
          rw [hrs2]
          simp -failIfUnchanged (disch := first | omega | (simp <;> omega) | fail) only [go_sem, simprocAttr]
          try simp
          try omega
        | false =>
          rw [hcm] at hrs2
          simp -failIfUnchanged (disch := first | omega | (simp <;> omega) | fail) only [go_sem, simprocAttr]
          refine ⟨k + 1, ⟨by omega, by omega⟩, by dsimp only; omega, ?_⟩
          dsimp only
          have hln := congrArg List.length hrs2
          simp only [List.length_append, if_true, Bool.false_eq_true, if_false, List.length_cons, List.length_nil] at hln
          rw [hrs2]
          simp -failIfUnchanged (disch := first | omega | (simp <;> omega) | fail) only [go_sem, simprocAttr]
          try simp
          try omega
      · have ek : k = l.length := by omega
        simp -failIfUnchanged (disch := first | omega | (simp <;> omega) | fail) only [go_sem, simprocAttr]
        refine ⟨i + 1, by dsimp only; omega, by dsimp only; omega, ?_⟩
        dsimp only
        rw [hks2 ek]
        simp -failIfUnchanged (disch := first | omega | (simp <;> omega) | fail) only [go_sem, simprocAttr]
        try simp
    · have ei : i = l.length := by omega
      subst ei
      simp -failIfUnchanged (disch := first | omega | (simp <;> omega) | fail) only [go_sem, simprocAttr]
      try simp
  · have hd : decide (¬ e = 0) = true := decide_eq_true h0
    simp -failIfUnchanged (disch := first | omega | (simp <;> omega) | fail) only [go_sem, simprocAttr, hd]
    simp [h0]

end Go.Proofs.Ytemnojaoickjfaa

/- Matchings: how great they can be; in whatever order. -/
set_option linter.unusedSimpArgs false
set_option linter.unusedVariables false
set_option linter.unnecessarySimpa false
namespace Go.Proofs.Ytemnojaoickjfaa
open Go Go.V

theorem fst_gm (b : FB) : GM b b.ones.length (fstM b) := (mem_lrg.1 (fst_most b).1).1
theorem most_le {b : FB} {t : List Pa} (h : GM b b.ones.length t) : t.length ≤ (fstM b).length := (mem_lrg.1 (fst_most b).1).2 t h
theorem lrg_iff {b : FB} {t : List Pa} : t ∈ lrgL b ↔ GM b b.ones.length t ∧ t.length = (fstM b).length := by
  rw [mem_lrg]
  constructor
  · rintro ⟨h1, h2⟩
    exact ⟨h1, Nat.le_antisymm (most_le h1) (h2 _ (fst_gm b))⟩
  · rintro ⟨h1, h2⟩
    exact ⟨h1, fun x hx => by rw [h2]; exact most_le hx⟩

/-! Different numbers below n are at most n. -/
theorem filter_ne_len (a : Int) : ∀ (l : List Int), l.Pairwise (fun x y => x ≠ y) → l.length ≤ (l.filter fun x => decide (x ≠ a)).length + 1
  | [], _ => by simp
  | x :: r, h => by
    have h1 := List.pairwise_cons.1 h
    by_cases e : x = a
    · subst e
      have : (r.filter fun y => decide (y ≠ x)) = r := List.filter_eq_self.2 fun y hy => decide_eq_true (fun e => h1.1 y hy e.symm)
      rw [List.filter_cons, this]
      simp
    · have ih := filter_ne_len a r h1.2
      rw [List.filter_cons, if_pos (decide_eq_true e)]
      simp only [List.length_cons]
      omega
theorem nodup_len : ∀ (n : Nat) (l : List Int), l.Pairwise (fun x y => x ≠ y) → (∀ x ∈ l, 0 ≤ x ∧ x < (n : Int)) → l.length ≤ n
  | 0, l, _, h => by
    cases l with
    | nil => simp
    | cons x r => have := h x (by simp); omega
  | n + 1, l, hd, h => by
    have h1 := filter_ne_len n l hd
    have h2 := nodup_len n (l.filter fun x => decide (x ≠ (n : Int))) (hd.filter _) fun x hx => by
      have hx := List.mem_filter.1 hx
      have h3 := h x hx.1
      have h4 := of_decide_eq_true hx.2
      omega
    omega

/-- A matching in whatever order. -/
structure UM (b : FB) (t : List Pa) : Prop where
  p : ∀ p ∈ t, (0 ≤ p.one ∧ p.one < (b.ones.length : Int)) ∧ (0 ≤ p.other ∧ p.other < (b.others.length : Int)) ∧ comB b.late (one b p.one.toNat) (oth b p.other.toNat) = true
  o : t.Pairwise fun p q => p.one ≠ q.one
  d : t.Pairwise fun p q => p.other ≠ q.other
theorem gm_um {b : FB} {t : List Pa} (h : GM b b.ones.length t) : UM b t := ⟨h.p, h.o.imp fun h => by omega, h.d⟩
theorem um_perm {b : FB} {t s : List Pa} (h : UM b t) (hp : t.Perm s) : UM b s :=
  ⟨fun p hm => h.p p (hp.mem_iff.2 hm), (hp.pairwise_iff (fun h e => h e.symm)).1 h.o, (hp.pairwise_iff (fun h e => h e.symm)).1 h.d⟩
def srtM (t : List Pa) : List Pa := t.mergeSort fun p q => decide (p.one ≤ q.one)
theorem srt_perm (t : List Pa) : (srtM t).Perm t := List.mergeSort_perm _ _
theorem um_gm {b : FB} {t : List Pa} (h : UM b t) : GM b b.ones.length (srtM t) := by
  have hu := um_perm h (srt_perm t).symm
  have hs : (srtM t).Pairwise fun p q => decide (p.one ≤ q.one) = true :=
    List.pairwise_mergeSort (fun a c d h1 h2 => decide_eq_true (by have := of_decide_eq_true h1; have := of_decide_eq_true h2; omega)) (fun a c => by
      rw [Bool.or_eq_true, decide_eq_true_eq, decide_eq_true_eq]; omega) t
  exact ⟨hu.p, (hs.and hu.o).imp fun {p q} h => by have h1 := of_decide_eq_true h.1; have h2 := h.2; omega, hu.d⟩
theorem um_le {b : FB} {t : List Pa} (h : UM b t) : t.length ≤ (fstM b).length := by
  have := most_le (um_gm h)
  rwa [(srt_perm t).length_eq] at this
theorem um_others {b : FB} {t : List Pa} (h : UM b t) : t.length ≤ b.others.length := by
  have := nodup_len b.others.length (t.map fun p => p.other) (h.d.map _ fun _ _ h => h) fun x hx => by
    obtain ⟨p, hp, rfl⟩ := List.mem_map.1 hx
    exact (h.p p hp).2.1
  simpa using this
theorem fst_others (b : FB) : (fstM b).length ≤ b.others.length := um_others (gm_um (fst_gm b))
theorem fst_ones (b : FB) : (fstM b).length ≤ b.ones.length := gm_len (fst_gm b)

/-- Fewest as the laws ask for it. -/
theorem c23 (b : FB) (hs : SmF b) (hc : chkB b = true) : Ctr Try.prog 23 [FK b] (.tup [.int (fewI b), .bool true]) := by
  refine ctr_of_wp hmix Try.func23 m23 rfl ?_
  unfold v23
  have k := c28 b hs
  have he : errF b = 0 := by unfold errF; rw [hc]; rfl
  unfold fewR at k
  rw [he, if_pos hc] at k
  have h1 := fst_others b
  have h2 := fst_ones b
  have hv := vf_of hc
  have hn1 := hv.n1
  have hn2 := hv.n2
  have hf : fewI b = (b.ones.length : Int) + b.others.length - (fstM b).length := rfl
  generalize fewI b = F at *
  have e1 : decide (max (b.ones.length : Int) b.others.length ≤ F) = true := decide_eq_true (by omega)
  have e2 : decide (F ≤ (b.ones.length : Int) + b.others.length) = true := decide_eq_true (by omega)
  simp -failIfUnchanged (disch := first | omega | (simp <;> omega) | fail) only [go_sem, simprocAttr]
  refine wcall k ?_
  simp -failIfUnchanged (disch := first | omega | (simp <;> omega) | fail) only [go_sem, simprocAttr, eq_self, e1, e2]

theorem rdy_of {b : FB} (h : rdyF b = true) : SmF b ∧ chkB b = true ∧ VF b := by
  unfold rdyF at h
  rw [Bool.and_eq_true, Bool.not_eq_true'] at h
  exact ⟨smf_of h.1, h.2, vf_of h.2⟩

/-! What the answers say of each largest matching. -/
theorem rg_le {b : FB} (who : Int) {t : List Pa} (ht : t ∈ lrgL b) : (rgK b who (lrgL b) (lrgL b).length).lo ≤ (owdI b t who).lo ∧ (owdI b t who).hi ≤ (rgK b who (lrgL b) (lrgL b).length).hi := by
  generalize lrgL b = M at *
  have key : ∀ k, ∀ i, i < k → (rgK b who M k).lo ≤ (owdI b (M[i]?.getD default) who).lo ∧ (owdI b (M[i]?.getD default) who).hi ≤ (rgK b who M k).hi := by
    intro k
    induction k with
    | zero => intro i hi; omega
    | succ k ih =>
      intro i hi
      unfold rgK
      dsimp only
      by_cases e : i = k
      · subst e; omega
      · have := ih i (by omega); omega
  obtain ⟨i, hi, e⟩ := List.mem_iff_getElem.1 ht
  have := key M.length i hi
  rw [List.getElem?_eq_getElem hi] at this
  rw [← e]
  exact this
end Go.Proofs.Ytemnojaoickjfaa

/- FinesLater. -/
set_option linter.unusedSimpArgs false
set_option linter.unusedVariables false
set_option linter.unnecessarySimpa false
namespace Go.Proofs.Ytemnojaoickjfaa
open Go Go.V

theorem com_late {b : FB} {l : Int} (hl : b.late ≤ l) {x y : En} (h : comB b.late x y = true) : comB (lat b l).late x y = true := by
  unfold comB at h ⊢
  simp only [Bool.and_eq_true, decide_eq_true_eq] at h ⊢
  exact ⟨h.1, Int.le_trans h.2.1 hl, h.2.2⟩
theorem gm_late {b : FB} {l : Int} (hl : b.late ≤ l) {t : List Pa} (h : GM b b.ones.length t) : GM (lat b l) (lat b l).ones.length t :=
  ⟨fun p hp => ⟨(h.p p hp).1, (h.p p hp).2.1, com_late hl (h.p p hp).2.2⟩, h.o, h.d⟩
theorem few_late {b : FB} {l : Int} (hl : b.late ≤ l) : fewI (lat b l) ≤ fewI b := by
  have := most_le (gm_late hl (fst_gm b))
  unfold fewI
  show (b.ones.length : Int) + b.others.length - _ ≤ _
  omega
theorem few_lat2 {b : FB} {l m : Int} (hl : l ≤ m) : fewI (lat b m) ≤ fewI (lat b l) := few_late (b := lat b l) hl
theorem fstN_spec (p : Nat → Bool) (n : Nat) : ∃ k, fstN p n = k ∧ k ≤ n ∧ (∀ i, i < k → p i = false) ∧ (k = n ∨ p k = true) := by
  have key : ∀ m, (∃ k, k ≤ m ∧ (∀ i, i < k → p i = false) ∧ (k = m ∨ p k = true)) := by
    intro m
    induction m with
    | zero => exact ⟨0, Nat.le_refl _, fun i hi => by omega, .inl rfl⟩
    | succ m ih =>
      obtain ⟨k, h1, h2, h3⟩ := ih
      by_cases hk : p k = true
      · exact ⟨k, by omega, h2, .inr hk⟩
      · have e : k = m := h3.resolve_right hk
        subst e
        exact ⟨k + 1, Nat.le_refl _, fun i hi => by
          by_cases e : i = k
          · subst e; simpa using hk
          · exact h2 i (by omega), .inl rfl⟩
  obtain ⟨k, h1, h2, h3⟩ := key n
  exact ⟨k, fstN_eq h1 h2 h3, h1, h2, h3⟩
theorem lt_spec (b : FB) : ltN b ≤ 30 ∧ fewI (lat b (ltN b : Nat)) = fewI (lat b 30) ∧ ∀ i : Nat, i < ltN b → fewI (lat b 30) < fewI (lat b i) := by
  obtain ⟨k, h1, h2, h3, h4⟩ := fstN_spec (ltP b) 30
  have h1' : ltN b = k := h1
  rw [h1']
  refine ⟨h2, ?_, fun i hi => ?_⟩
  · apply Int.le_antisymm
    · rcases h4 with rfl | h4
      · exact Int.le_refl _
      · exact of_decide_eq_true h4
    · exact few_lat2 (by omega)
  · have := of_decide_eq_false (h3 i hi)
    omega
theorem chk_lat {b : FB} (hc : chkB b = true) {l : Int} (h : 0 ≤ l ∧ l ≤ 30) : chkB (lat b l) = true := by
  unfold chkB at hc ⊢
  simp only [Bool.and_eq_true] at hc ⊢
  exact ⟨hc.1, hc.2.1, by unfold within; exact decide_eq_true h, hc.2.2.2⟩

set_option maxRecDepth 10000 in
theorem c7 (b : FB) (l : Int) (p : Pa) : Ctr Try.prog 7 [FK b, .int l, PA p] (.bool true) := by
  refine ctr_of_wp hmix Try.func7 m7 rfl ?_
  unfold v7
  simp -failIfUnchanged (disch := first | omega | (simp <;> omega) | fail) only [go_sem, simprocAttr]
  refine wcall (c22 b) ?_
  cases hr : rdyF b with
  | false =>
    simp -failIfUnchanged (disch := first | omega | (simp <;> omega) | fail) only [go_sem, simprocAttr]
    refine wcall c15 ?_
    simp -failIfUnchanged (disch := first | omega | (simp <;> omega) | fail) only [go_sem, simprocAttr]
  | true =>
    obtain ⟨hs, hc, hv⟩ := rdy_of hr
    simp -failIfUnchanged (disch := first | omega | (simp <;> omega) | fail) only [go_sem, simprocAttr]
    refine wcall (c33 l b.late 30) ?_
    cases hw : within l b.late 30 with
    | false =>
      simp -failIfUnchanged (disch := first | omega | (simp <;> omega) | fail) only [go_sem, simprocAttr]
      refine wcall c15 ?_
      simp -failIfUnchanged (disch := first | omega | (simp <;> omega) | fail) only [go_sem, simprocAttr]
    | true =>
      have hw' : b.late ≤ l ∧ l ≤ 30 := by simpa [within] using hw
      have hla := hv.la
      obtain ⟨g1, g2, g3⟩ := lt_spec b
      have k23 := c23 b hs hc
      have k24 := c23 (lat b l) (sm_lat hs l) (chk_lat hc (by omega))
      have k25 := c23 (lat b 30) (sm_lat hs 30) (chk_lat hc (by omega))
      have k26 := c23 (lat b (ltN b : Nat)) (sm_lat hs _) (chk_lat hc (by omega))
      have k19 := c19 b hs
      have he : errF b = 0 := by unfold errF; rw [hc]; rfl
      unfold ltR at k19
      rw [he, if_pos hc] at k19
      have k34 := c34 b hs l
      have k35 := c34 b hs 30
      have k36 := c34 b hs (ltN b : Nat)
      have hle := few_late hw'.1
      have a1 := c37 b hs p.one p.other
      have a2 := c37 (lat b l) (sm_lat hs l) p.one p.other
      have a3 := c35 b p.one
      have a4 := c36 b p.other
      unfold samR at a1 a2
      have hpe : prE (lat b l) p.one p.other = askF (lat b l) (oneI b p.one && othI b p.other) := rfl
      have hpe1 : prE b p.one p.other = askF b (oneI b p.one && othI b p.other) := rfl
      have hk3 : Ctr Try.prog 33 [.int (ltN b : Nat), .int 0, .int 30] (.bool true) := by
        have := c33 (ltN b : Nat) 0 30
        rwa [show within (ltN b : Nat) 0 30 = true by unfold within; exact decide_eq_true (by omega)] at this
      have hbef : ∀ q : Nat, ltN b = q + 1 → Ctr Try.prog 34 [FK b, .int (q : Nat)] (FK (lat b (q : Nat))) ∧ Ctr Try.prog 23 [FK (lat b (q : Nat))] (.tup [.int (fewI (lat b (q : Nat))), .bool true]) ∧ fewI (lat b 30) < fewI (lat b (q : Nat)) := fun q hq =>
        ⟨c34 b hs q, c23 (lat b (q : Nat)) (sm_lat hs _) (chk_lat hc (by omega)), g3 q (by omega)⟩
      rw [g2] at k26
      generalize ltN b = K at *
      have d0 : decide (¬ (0 : Int) = 0) = false := rfl
      have d1 : decide (fewI b < fewI (lat b l)) = false := decide_eq_false (by omega)
      have d2 : decide (¬ fewI (lat b 30) = fewI (lat b 30)) = false := decide_eq_false (by simp)
      have hone : oneI b p.one = within p.one 0 (w64 ((b.ones.length : Int) - 1)) := rfl
      have hoth : othI b p.other = within p.other 0 (w64 ((b.others.length : Int) - 1)) := rfl
      obtain ⟨u, hu⟩ : ∃ u, within p.one 0 (w64 ((b.ones.length : Int) - 1)) = u := ⟨_, rfl⟩
      obtain ⟨v, hvv⟩ : ∃ v, within p.other 0 (w64 ((b.others.length : Int) - 1)) = v := ⟨_, rfl⟩
      rw [hone, hoth, hu, hvv] at hpe hpe1
      rw [hu] at a3
      rw [hvv] at a4
      unfold FK at a2 k24 k25 k26 k34 k35 k36
      simp -failIfUnchanged (disch := first | omega | (simp <;> omega) | fail) only [go_sem, simprocAttr]
      refine wcall k34 ?_
      simp -failIfUnchanged (disch := first | omega | (simp <;> omega) | fail) only [go_sem, simprocAttr]
      refine wcall k23 ?_
      simp -failIfUnchanged (disch := first | omega | (simp <;> omega) | fail) only [go_sem, simprocAttr]
      refine wcall k24 ?_
      simp -failIfUnchanged (disch := first | omega | (simp <;> omega) | fail) only [go_sem, simprocAttr]
      refine wcall k19 ?_
      simp -failIfUnchanged (disch := first | omega | (simp <;> omega) | fail) only [go_sem, simprocAttr, d0, d1]
      refine wcall hk3 ?_
      simp -failIfUnchanged (disch := first | omega | (simp <;> omega) | fail) only [go_sem, simprocAttr]
      refine wcall k35 ?_
      simp -failIfUnchanged (disch := first | omega | (simp <;> omega) | fail) only [go_sem, simprocAttr]
      refine wcall k25 ?_
      simp -failIfUnchanged (disch := first | omega | (simp <;> omega) | fail) only [go_sem, simprocAttr]
      refine wcall k36 ?_
      simp -failIfUnchanged (disch := first | omega | (simp <;> omega) | fail) only [go_sem, simprocAttr]
      refine wcall k26 ?_
      simp -failIfUnchanged (disch := first | omega | (simp <;> omega) | fail) only [go_sem, simprocAttr, d2]
      refine tailed (T := ?T) (fun tail => ?mm) ?tt
      case mm =>
        refine wcond_dec (fun h0 => ?_) (fun h0 => ?_)
        · obtain ⟨q, rfl⟩ : ∃ q, K = q + 1 := ⟨K - 1, by omega⟩
          obtain ⟨b1, b2, b3⟩ := hbef q rfl
          have e1 : (((q + 1 : Nat) : Int) - 1) = (q : Nat) := by omega
          have d3 : decide (fewI (lat b (q : Nat)) ≤ fewI (lat b 30)) = false := decide_eq_false (by omega)
          unfold FK at b1 b2
          simp -failIfUnchanged (disch := first | omega | (simp <;> omega) | fail) only [go_sem, simprocAttr, e1]
          refine wcall b1 ?_
          simp -failIfUnchanged (disch := first | omega | (simp <;> omega) | fail) only [go_sem, simprocAttr]
          refine wcall b2 ?_
          simp -failIfUnchanged (disch := first | omega | (simp <;> omega) | fail) only [go_sem, simprocAttr, d3]
          exact tail.out
        · simp -failIfUnchanged (disch := first | omega | (simp <;> omega) | fail) only [go_sem, simprocAttr]
          exact tail.out
      case tt =>
        refine wcall a3 ?_
        cases u with
        | false =>
          simp -failIfUnchanged (disch := first | omega | (simp <;> omega) | fail) only [go_sem, simprocAttr]
          refine wcall c15 ?_
          simp -failIfUnchanged (disch := first | omega | (simp <;> omega) | fail) only [go_sem, simprocAttr]
        | true =>
          simp -failIfUnchanged (disch := first | omega | (simp <;> omega) | fail) only [go_sem, simprocAttr]
          refine wcall a4 ?_
          cases v with
          | false =>
            simp -failIfUnchanged (disch := first | omega | (simp <;> omega) | fail) only [go_sem, simprocAttr]
            refine wcall c15 ?_
            simp -failIfUnchanged (disch := first | omega | (simp <;> omega) | fail) only [go_sem, simprocAttr]
          | true =>
            have e1 : prE b p.one p.other = 0 := by rw [hpe1]; exact ask_ok hc rfl
            have e2 : prE (lat b l) p.one p.other = 0 := by rw [hpe]; exact ask_ok (chk_lat hc (by omega)) rfl
            rw [e1, if_pos rfl] at a1
            rw [e2, if_pos rfl] at a2
            have h1 : comB b.late (one b p.one.toNat) (oth b p.other.toNat) = true → comB (lat b l).late (one (lat b l) p.one.toNat) (oth (lat b l) p.other.toNat) = true := com_late hw'.1
            generalize comB b.late (one b p.one.toNat) (oth b p.other.toNat) = X at *
            generalize comB (lat b l).late (one (lat b l) p.one.toNat) (oth (lat b l) p.other.toNat) = Y at *
            simp -failIfUnchanged (disch := first | omega | (simp <;> omega) | fail) only [go_sem, simprocAttr]
            refine wcall a1 ?_
            simp -failIfUnchanged (disch := first | omega | (simp <;> omega) | fail) only [go_sem, simprocAttr]
            refine wcall a2 ?_
            simp -failIfUnchanged (disch := first | omega | (simp <;> omega) | fail) only [go_sem, simprocAttr, eq_self]
            cases X with
            | false =>
              simp -failIfUnchanged (disch := first | omega | (simp <;> omega) | fail) only [go_sem, simprocAttr]
              refine wcall c15 ?_
              simp -failIfUnchanged (disch := first | omega | (simp <;> omega) | fail) only [go_sem, simprocAttr]
            | true =>
              rw [h1 rfl]
              simp -failIfUnchanged (disch := first | omega | (simp <;> omega) | fail) only [go_sem, simprocAttr]
              refine wcall c15 ?_
              simp -failIfUnchanged (disch := first | omega | (simp <;> omega) | fail) only [go_sem, simprocAttr]

end Go.Proofs.Ytemnojaoickjfaa

/- Matchings of other books: maps; the books the other way around. -/
set_option linter.unusedSimpArgs false
set_option linter.unusedVariables false
set_option linter.unnecessarySimpa false
namespace Go.Proofs.Ytemnojaoickjfaa
open Go Go.V

/-- Matchings by maps of the entries. -/
theorem um_map {b o : FB} {f g : Int → Int} {t : List Pa} (h : UM o t)
    (hr : ∀ p ∈ t, (0 ≤ f p.one ∧ f p.one < (b.ones.length : Int)) ∧ (0 ≤ g p.other ∧ g p.other < (b.others.length : Int)) ∧ comB b.late (one b (f p.one).toNat) (oth b (g p.other).toNat) = true)
    (hf : ∀ p ∈ t, ∀ q ∈ t, f p.one = f q.one → p.one = q.one) (hg : ∀ p ∈ t, ∀ q ∈ t, g p.other = g q.other → p.other = q.other) :
    UM b (t.map fun p => ⟨f p.one, g p.other⟩) := by
  refine ⟨fun p hp => ?_, ?_, ?_⟩
  · obtain ⟨q, hq, rfl⟩ := List.mem_map.1 hp
    exact hr q hq
  · rw [List.pairwise_map]
    exact h.o.imp_of_mem fun {p q} hp hq hne e => hne (hf p hp q hq e)
  · rw [List.pairwise_map]
    exact h.d.imp_of_mem fun {p q} hp hq hne e => hne (hg p hp q hq e)
theorem um_filter {b : FB} {t : List Pa} (h : UM b t) (p : Pa → Bool) : UM b (t.filter p) :=
  ⟨fun x hx => h.p x (List.mem_filter.1 hx).1, h.o.filter _, h.d.filter _⟩

theorem lS_map (F : Pa → Sp) (m : Pa → Pa) : ∀ (l : List Pa), lS F (l.map m) = lS (fun p => F (m p)) l
  | [] => rfl
  | p :: l => by
    show addS (F (m p)) (lS F (l.map m)) = _
    rw [lS_map F m l]
    rfl
theorem rg_at {b : FB} (who : Int) : (∃ t ∈ lrgL b, (rgK b who (lrgL b) (lrgL b).length).lo = (owdI b t who).lo) ∧ ∃ t ∈ lrgL b, (rgK b who (lrgL b) (lrgL b).length).hi = (owdI b t who).hi := by
  have h0 : 0 < (lrgL b).length := List.length_pos_iff.2 (lrgL_ne b)
  generalize lrgL b = M at *
  have key : ∀ k, k ≤ M.length → (∃ t ∈ M, (rgK b who M k).lo = (owdI b t who).lo) ∧ ∃ t ∈ M, (rgK b who M k).hi = (owdI b t who).hi := by
    intro k
    induction k with
    | zero => intro _; exact ⟨⟨_, mem_getD h0, rfl⟩, ⟨_, mem_getD h0, rfl⟩⟩
    | succ k ih =>
      intro hk
      obtain ⟨⟨t, h1, h2⟩, s, h3, h4⟩ := ih (by omega)
      have hm := mem_getD (by omega : k < M.length)
      unfold rgK
      dsimp only
      constructor
      · rcases Int.le_total (rgK b who M k).lo (owdI b (M[k]?.getD default) who).lo with h | h
        · exact ⟨t, h1, by rw [Int.min_eq_left h, h2]⟩
        · exact ⟨_, hm, by rw [Int.min_eq_right h]⟩
      · rcases Int.le_total (rgK b who M k).hi (owdI b (M[k]?.getD default) who).hi with h | h
        · exact ⟨_, hm, by rw [Int.max_eq_right h]⟩
        · exact ⟨s, h3, by rw [Int.max_eq_left h, h4]⟩
  exact key _ (Nat.le_refl _)
/-- What is owed is the same if the largest matchings owe the same. -/
theorem rg_same {b o : FB} {who who' : Int} (h1 : ∀ t ∈ lrgL b, ∃ s ∈ lrgL o, owdI o s who' = owdI b t who) (h2 : ∀ s ∈ lrgL o, ∃ t ∈ lrgL b, owdI b t who = owdI o s who') :
    rgK b who (lrgL b) (lrgL b).length = rgK o who' (lrgL o) (lrgL o).length := by
  obtain ⟨⟨t1, a1, a2⟩, t2, a3, a4⟩ := rg_at (b := b) who
  obtain ⟨⟨s1, b1, b2⟩, s2, b3, b4⟩ := rg_at (b := o) who'
  obtain ⟨x1, x2, x3⟩ := h1 t1 a1
  obtain ⟨x4, x5, x6⟩ := h1 t2 a3
  obtain ⟨y1, y2, y3⟩ := h2 s1 b1
  obtain ⟨y4, y5, y6⟩ := h2 s2 b3
  have c1 := rg_le who' x2
  have c2 := rg_le who' x5
  have c3 := rg_le who y2
  have c4 := rg_le who y5
  rw [x3] at c1
  rw [x6] at c2
  rw [y3] at c3
  rw [y6] at c4
  exact sp_ext (by omega) (by omega)

end Go.Proofs.Ytemnojaoickjfaa

/- Books with the entries of a person alone. -/
set_option linter.unusedSimpArgs false
set_option linter.unusedVariables false
set_option linter.unnecessarySimpa false
namespace Go.Proofs.Ytemnojaoickjfaa
open Go Go.V

def minL (l : List En) (w : Int) : List En := l.filter fun e => decide (e.who = w)
abbrev ofB (b : FB) (w : Int) : FB := { b with ones := minL b.ones w, others := minL b.others w }
def ixL (l : List En) (w : Int) : List Nat := (List.range l.length).filter fun i => decide ((l[i]?.getD default).who = w)
theorem list_get (l : List En) : l = (List.range l.length).map fun i => l[i]?.getD default := by
  apply List.ext_getElem?
  intro i
  rcases Nat.lt_or_ge i l.length with h | h
  · rw [List.getElem?_map, List.getElem?_range h, List.getElem?_eq_getElem h]
    simp [h]
  · rw [List.getElem?_eq_none h, List.getElem?_eq_none (by simpa using h)]
theorem minL_ix (l : List En) (w : Int) : minL l w = (ixL l w).map fun i => l[i]?.getD default := by
  have h : minL l w = minL ((List.range l.length).map fun i => l[i]?.getD default) w := by rw [← list_get l]
  rw [h]
  unfold minL ixL
  rw [List.filter_map]
  rfl
theorem ix_len (l : List En) (w : Int) : (minL l w).length = (ixL l w).length := by rw [minL_ix, List.length_map]
theorem ix_mem {l : List En} {w : Int} {i : Nat} : i ∈ ixL l w ↔ i < l.length ∧ (l[i]?.getD default).who = w := by
  unfold ixL
  rw [List.mem_filter, List.mem_range, decide_eq_true_eq]
theorem ix_nd (l : List En) (w : Int) : (ixL l w).Pairwise fun x y => x ≠ y := by
  unfold ixL
  exact (List.pairwise_lt_range.imp fun h => by omega).filter _
theorem minL_get {l : List En} {w : Int} {k : Nat} (h : k < (ixL l w).length) : (minL l w)[k]?.getD default = l[(ixL l w)[k]]?.getD default := by
  rw [minL_ix, List.getElem?_map, List.getElem?_eq_getElem h]
  rfl
theorem min_mem {l : List En} {w : Int} {x : En} (h : x ∈ minL l w) : x ∈ l := (List.mem_filter.1 h).1
theorem min_le (l : List En) (w : Int) : (minL l w).length ≤ l.length := List.length_filter_le _ _
theorem vf_of2 {b : FB} (hv : VF b) (w : Int) : VF (ofB b w) :=
  ⟨hv.bs, hv.pl, hv.pe, hv.la, Nat.le_trans (min_le _ _) hv.n1, Nat.le_trans (min_le _ _) hv.n2,
   fun x hx => ⟨(hv.e1 x (min_mem hx)).d, (hv.e1 x (min_mem hx)).w, ⟨(hv.e1 x (min_mem hx)).c.n, (hv.e1 x (min_mem hx)).c.s⟩⟩, fun x hx => ⟨(hv.e2 x (min_mem hx)).d, (hv.e2 x (min_mem hx)).w, ⟨(hv.e2 x (min_mem hx)).c.n, (hv.e2 x (min_mem hx)).c.s⟩⟩⟩
theorem chk_ofB {b : FB} (hc : chkB b = true) (w : Int) : chkB (ofB b w) = true := by
  have key : ∀ l : List En, listB b l = true → listB b (minL l w) = true := fun l h => by
    unfold listB at h ⊢
    simp only [Bool.and_eq_true, decide_eq_true_eq, List.all_eq_true] at h ⊢
    refine ⟨?_, fun x hx => h.2 x (min_mem hx)⟩
    have := min_le l w
    omega
  unfold chkB at hc ⊢
  simp only [Bool.and_eq_true] at hc ⊢
  obtain ⟨c1, c2, c3, c4, c5⟩ := hc
  exact ⟨c1, c2, c3, key _ c4, key _ c5⟩
theorem sm_of2 {b : FB} (hs : SmF b) (w : Int) : SmF (ofB b w) :=
  ⟨⟨Nat.lt_of_le_of_lt (min_le _ _) hs.ones.n, fun x hx => hs.ones.c x (min_mem hx)⟩, ⟨Nat.lt_of_le_of_lt (min_le _ _) hs.others.n, fun x hx => hs.others.c x (min_mem hx)⟩⟩

/-! The entries' numbers there and here. -/
def toI (ix : List Nat) (i : Int) : Int := ((ix[i.toNat]?.getD 0 : Nat) : Int)
def frI (ix : List Nat) (j : Int) : Int := ((ix.idxOf j.toNat : Nat) : Int)
theorem toI_at {ix : List Nat} {i : Int} (h0 : 0 ≤ i) (h : i < (ix.length : Int)) : ∃ k : Nat, i = k ∧ ∃ hk : k < ix.length, toI ix i = (ix[k] : Nat) := by
  refine ⟨i.toNat, by omega, by omega, ?_⟩
  unfold toI
  rw [List.getElem?_eq_getElem (by omega)]
  rfl
theorem toI_inj {ix : List Nat} (hd : ix.Pairwise fun x y => x ≠ y) {i j : Int} (hi : 0 ≤ i ∧ i < (ix.length : Int)) (hj : 0 ≤ j ∧ j < (ix.length : Int)) (h : toI ix i = toI ix j) : i = j := by
  obtain ⟨k, rfl, hk, e1⟩ := toI_at hi.1 hi.2
  obtain ⟨m, rfl, hm, e2⟩ := toI_at hj.1 hj.2
  rw [e1, e2] at h
  have h : ix[k] = ix[m] := by omega
  rcases Nat.lt_trichotomy k m with h1 | h1 | h1
  · exact absurd h (List.pairwise_iff_getElem.1 hd k m hk hm h1)
  · omega
  · exact absurd h.symm (List.pairwise_iff_getElem.1 hd m k hm hk h1)
theorem fr_at {ix : List Nat} {j : Int} (h : j.toNat ∈ ix) (h0 : 0 ≤ j) : (0 ≤ frI ix j ∧ frI ix j < (ix.length : Int)) ∧ toI ix (frI ix j) = j := by
  have hlt : ix.idxOf j.toNat < ix.length := List.idxOf_lt_length_iff.2 h
  refine ⟨by unfold frI; omega, ?_⟩
  unfold toI frI
  rw [Int.toNat_natCast, List.getElem?_eq_getElem hlt, Option.getD_some, List.getElem_idxOf]
  omega

def whP (b : FB) (p : Pa) : Int := (one b p.one.toNat).who
theorem wh_oth {b : FB} {t : List Pa} (h : UM b t) {p : Pa} (hp : p ∈ t) : (oth b p.other.toNat).who = whP b p := by
  have := (h.p p hp).2.2
  unfold comB at this
  simp only [Bool.and_eq_true, decide_eq_true_eq] at this
  exact this.1.symm
def toP (b : FB) (w : Int) (p : Pa) : Pa := ⟨toI (ixL b.ones w) p.one, toI (ixL b.others w) p.other⟩
def frP (b : FB) (w : Int) (p : Pa) : Pa := ⟨frI (ixL b.ones w) p.one, frI (ixL b.others w) p.other⟩
theorem one_to {b : FB} {w i : Int} (h0 : 0 ≤ i) (h : i < ((ofB b w).ones.length : Int)) : one b (toI (ixL b.ones w) i).toNat = one (ofB b w) i.toNat ∧ (toI (ixL b.ones w) i).toNat ∈ ixL b.ones w ∧ 0 ≤ toI (ixL b.ones w) i := by
  have h' : i < ((ixL b.ones w).length : Int) := by rw [← ix_len]; exact h
  obtain ⟨k, rfl, hk, e⟩ := toI_at h0 h'
  rw [e]
  refine ⟨?_, by rw [Int.toNat_natCast]; exact List.getElem_mem _, by omega⟩
  rw [Int.toNat_natCast, Int.toNat_natCast]
  exact (minL_get hk).symm
theorem oth_to {b : FB} {w i : Int} (h0 : 0 ≤ i) (h : i < ((ofB b w).others.length : Int)) : oth b (toI (ixL b.others w) i).toNat = oth (ofB b w) i.toNat ∧ (toI (ixL b.others w) i).toNat ∈ ixL b.others w ∧ 0 ≤ toI (ixL b.others w) i := by
  have h' : i < ((ixL b.others w).length : Int) := by rw [← ix_len]; exact h
  obtain ⟨k, rfl, hk, e⟩ := toI_at h0 h'
  rw [e]
  refine ⟨?_, by rw [Int.toNat_natCast]; exact List.getElem_mem _, by omega⟩
  rw [Int.toNat_natCast, Int.toNat_natCast]
  exact (minL_get hk).symm
theorem um_to {b : FB} {w : Int} {t : List Pa} (h : UM (ofB b w) t) : UM b (t.map (toP b w)) ∧ ∀ p ∈ t.map (toP b w), whP b p = w := by
  have l1 : ((ofB b w).ones.length : Int) = ((ixL b.ones w).length : Int) := by rw [← ix_len]
  have l2 : ((ofB b w).others.length : Int) = ((ixL b.others w).length : Int) := by rw [← ix_len]
  constructor
  · refine um_map (f := toI (ixL b.ones w)) (g := toI (ixL b.others w)) h (fun p hp => ?_) (fun p hp q hq e => ?_) (fun p hp q hq e => ?_)
    · obtain ⟨h1, h2, h3⟩ := h.p p hp
      obtain ⟨a1, a2, a3⟩ := one_to h1.1 h1.2
      obtain ⟨b1, b2, b3⟩ := oth_to h2.1 h2.2
      have c1 := (ix_mem.1 a2).1
      have c2 := (ix_mem.1 b2).1
      refine ⟨by omega, by omega, ?_⟩
      rw [a1, b1]
      exact h3
    · have h1 := (h.p p hp).1
      have h2 := (h.p q hq).1
      exact toI_inj (ix_nd _ _) (by omega) (by omega) e
    · have h1 := (h.p p hp).2.1
      have h2 := (h.p q hq).2.1
      exact toI_inj (ix_nd _ _) (by omega) (by omega) e
  · intro p hp
    obtain ⟨q, hq, rfl⟩ := List.mem_map.1 hp
    have h1 := (h.p q hq).1
    obtain ⟨_, a2, _⟩ := one_to h1.1 h1.2
    exact (ix_mem.1 a2).2
theorem to_fr {b : FB} {w : Int} {t : List Pa} (h : UM b t) (hw : ∀ p ∈ t, whP b p = w) {p : Pa} (hp : p ∈ t) :
    (0 ≤ frI (ixL b.ones w) p.one ∧ frI (ixL b.ones w) p.one < ((ofB b w).ones.length : Int)) ∧ (0 ≤ frI (ixL b.others w) p.other ∧ frI (ixL b.others w) p.other < ((ofB b w).others.length : Int)) ∧ toP b w (frP b w p) = p := by
  have l1 : ((ofB b w).ones.length : Int) = ((ixL b.ones w).length : Int) := by rw [← ix_len]
  have l2 : ((ofB b w).others.length : Int) = ((ixL b.others w).length : Int) := by rw [← ix_len]
  obtain ⟨h1, h2, h3⟩ := h.p p hp
  have a1 : p.one.toNat ∈ ixL b.ones w := ix_mem.2 ⟨by omega, hw p hp⟩
  have a2 : p.other.toNat ∈ ixL b.others w := ix_mem.2 ⟨by omega, by have := wh_oth h hp; rw [hw p hp] at this; exact this⟩
  obtain ⟨b1, b2⟩ := fr_at a1 h1.1
  obtain ⟨c1, c2⟩ := fr_at a2 h2.1
  refine ⟨by omega, by omega, ?_⟩
  unfold toP frP
  dsimp only
  rw [b2, c2]
theorem um_fr {b : FB} {w : Int} {t : List Pa} (h : UM b t) (hw : ∀ p ∈ t, whP b p = w) : UM (ofB b w) (t.map (frP b w)) := by
  refine um_map (f := frI (ixL b.ones w)) (g := frI (ixL b.others w)) h (fun p hp => ?_) (fun p hp q hq e => ?_) (fun p hp q hq e => ?_)
  · obtain ⟨a1, a2, a3⟩ := to_fr h hw hp
    refine ⟨a1, a2, ?_⟩
    rw [← (one_to a1.1 a1.2).1, ← (oth_to a2.1 a2.2).1]
    have e1 : toI (ixL b.ones w) (frI (ixL b.ones w) p.one) = p.one := congrArg Pa.one a3
    have e2 : toI (ixL b.others w) (frI (ixL b.others w) p.other) = p.other := congrArg Pa.other a3
    rw [e1, e2]
    exact (h.p p hp).2.2
  · have e1 : toI (ixL b.ones w) (frI (ixL b.ones w) p.one) = p.one := congrArg Pa.one (to_fr h hw hp).2.2
    have e2 : toI (ixL b.ones w) (frI (ixL b.ones w) q.one) = q.one := congrArg Pa.one (to_fr h hw hq).2.2
    rw [← e1, ← e2, e]
  · have e1 : toI (ixL b.others w) (frI (ixL b.others w) p.other) = p.other := congrArg Pa.other (to_fr h hw hp).2.2
    have e2 : toI (ixL b.others w) (frI (ixL b.others w) q.other) = q.other := congrArg Pa.other (to_fr h hw hq).2.2
    rw [← e1, ← e2, e]
theorem map_to_fr {b : FB} {w : Int} {t : List Pa} (h : UM b t) (hw : ∀ p ∈ t, whP b p = w) : (t.map (frP b w)).map (toP b w) = t := by
  rw [List.map_map]
  conv => rhs; rw [← List.map_id t]
  exact List.map_congr_left fun p hp => (to_fr h hw hp).2.2

/-- Two matchings of different persons together. -/
theorem um_app {b : FB} {s t : List Pa} (hs : UM b s) (ht : UM b t) (hd : ∀ p ∈ s, ∀ q ∈ t, whP b p ≠ whP b q) : UM b (s ++ t) := by
  refine ⟨fun p hp => ?_, ?_, ?_⟩
  · rcases List.mem_append.1 hp with hp | hp
    · exact hs.p p hp
    · exact ht.p p hp
  · rw [List.pairwise_append]
    refine ⟨hs.o, ht.o, fun p hp q hq e => hd p hp q hq ?_⟩
    unfold whP
    rw [e]
  · rw [List.pairwise_append]
    refine ⟨hs.d, ht.d, fun p hp q hq e => hd p hp q hq ?_⟩
    rw [← wh_oth hs hp, ← wh_oth ht hq, e]
theorem filt_split (f : Pa → Bool) : ∀ t : List Pa, t.length = (t.filter f).length + (t.filter fun p => !f p).length
  | [] => rfl
  | p :: t => by
    have ih := filt_split f t
    cases h : f p <;> simp [h] <;> omega
def isW (b : FB) (w : Int) (p : Pa) : Bool := decide (whP b p = w)
def repM (b : FB) (w : Int) (t s : List Pa) : List Pa := (t.filter fun p => !isW b w p) ++ s.map (toP b w)
theorem um_rep {b : FB} {w : Int} {t s : List Pa} (ht : UM b t) (hs : UM (ofB b w) s) : UM b (repM b w t s) := by
  obtain ⟨h1, h2⟩ := um_to hs
  refine um_app (um_filter ht _) h1 fun p hp q hq e => ?_
  have h3 := (List.mem_filter.1 hp).2
  rw [h2 q hq] at e
  unfold isW at h3
  rw [decide_eq_true e] at h3
  cases h3
theorem rep_len (b : FB) (w : Int) (t s : List Pa) : (repM b w t s).length = (t.filter fun p => !isW b w p).length + s.length := by
  unfold repM
  rw [List.length_append, List.length_map]
theorem um_part {b : FB} {w : Int} {t : List Pa} (ht : UM b t) : UM (ofB b w) ((t.filter (isW b w)).map (frP b w)) :=
  um_fr (um_filter ht _) fun p hp => of_decide_eq_true (List.mem_filter.1 hp).2
/-- A person's part of a largest matching is largest. -/
theorem part_most {b : FB} {t : List Pa} (ht : UM b t) (hl : t.length = (fstM b).length) (w : Int) : (t.filter (isW b w)).length = (fstM (ofB b w)).length := by
  have h1 := um_le (um_part (w := w) ht)
  rw [List.length_map] at h1
  have h2 := um_le (um_rep ht (gm_um (fst_gm (ofB b w))))
  rw [rep_len] at h2
  have h3 := filt_split (isW b w) t
  omega

/-! How many fines: the sum over all persons. -/
def mSm (b : FB) : Nat → Nat
  | 0 => 0
  | k + 1 => mSm b k + (fstM (ofB b (k : Nat))).length
theorem mSm_eq {b : FB} {t : List Pa} (ht : UM b t) (hl : t.length = (fstM b).length) : ∀ k : Nat, (t.filter fun p => decide (0 ≤ whP b p ∧ whP b p < (k : Int))).length = mSm b k
  | 0 => by
    unfold mSm
    rw [List.length_eq_zero_iff, List.filter_eq_nil_iff]
    intro p _
    rw [decide_eq_true_eq]
    omega
  | k + 1 => by
    unfold mSm
    rw [← mSm_eq ht hl k, ← part_most ht hl]
    have h := filt_split (fun p => decide (whP b p < (k : Int))) (t.filter fun p => decide (0 ≤ whP b p ∧ whP b p < ((k + 1 : Nat) : Int)))
    rw [h, List.filter_filter, List.filter_filter]
    congr 2
    · refine List.filter_congr fun p _ => ?_
      rw [← Bool.decide_and]
      apply decide_eq_decide.2
      omega
    · refine List.filter_congr fun p _ => ?_
      unfold isW
      rw [← decide_not, ← Bool.decide_and]
      apply decide_eq_decide.2
      omega
def cSm (l : List En) : Nat → Nat
  | 0 => 0
  | k + 1 => cSm l k + (minL l (k : Nat)).length
theorem filt_splitE (f : En → Bool) : ∀ t : List En, t.length = (t.filter f).length + (t.filter fun p => !f p).length
  | [] => rfl
  | p :: t => by
    have ih := filt_splitE f t
    cases h : f p <;> simp [h] <;> omega
theorem cSm_eq (l : List En) : ∀ k : Nat, (l.filter fun e => decide (0 ≤ e.who ∧ e.who < (k : Int))).length = cSm l k
  | 0 => by
    unfold cSm
    rw [List.length_eq_zero_iff, List.filter_eq_nil_iff]
    intro p _
    rw [decide_eq_true_eq]
    omega
  | k + 1 => by
    unfold cSm minL
    rw [← cSm_eq l k]
    have h := filt_splitE (fun e => decide (e.who < (k : Int))) (l.filter fun e => decide (0 ≤ e.who ∧ e.who < ((k + 1 : Nat) : Int)))
    rw [h, List.filter_filter, List.filter_filter]
    congr 2
    · refine List.filter_congr fun p _ => ?_
      rw [← Bool.decide_and]
      apply decide_eq_decide.2
      omega
    · refine List.filter_congr fun p _ => ?_
      rw [← decide_not, ← Bool.decide_and]
      apply decide_eq_decide.2
      omega
def fSm (b : FB) : Nat → Int
  | 0 => 0
  | k + 1 => fSm b k + fewI (ofB b (k : Nat))
theorem fSm_eq (b : FB) : ∀ k, fSm b k = (cSm b.ones k : Int) + cSm b.others k - mSm b k
  | 0 => rfl
  | k + 1 => by
    unfold fSm cSm mSm
    rw [fSm_eq b k]
    unfold fewI
    show _ + (((minL b.ones (k : Nat)).length : Int) + (minL b.others (k : Nat)).length - _) = _
    omega
theorem few_sum {b : FB} (hv : VF b) {P : Nat} (hP : b.persons = P) : fewI b = fSm b P := by
  rw [fSm_eq, ← cSm_eq, ← cSm_eq, ← mSm_eq (gm_um (fst_gm b)) rfl]
  have h1 : (b.ones.filter fun e => decide (0 ≤ e.who ∧ e.who < (P : Int))) = b.ones := List.filter_eq_self.2 fun e he => decide_eq_true (by have := (hv.e1 e he).w; omega)
  have h2 : (b.others.filter fun e => decide (0 ≤ e.who ∧ e.who < (P : Int))) = b.others := List.filter_eq_self.2 fun e he => decide_eq_true (by have := (hv.e2 e he).w; omega)
  have h3 : ((fstM b).filter fun p => decide (0 ≤ whP b p ∧ whP b p < (P : Int))) = fstM b := List.filter_eq_self.2 fun p hp => decide_eq_true (by
    have h4 := ((fst_gm b).p p hp).1
    have := (one_v hv (i := p.one.toNat) (by omega)).w
    unfold whP
    omega)
  rw [h1, h2, h3]
  rfl

end Go.Proofs.Ytemnojaoickjfaa

/- FinesPersons. -/
set_option linter.unusedSimpArgs false
set_option linter.unusedVariables false
set_option linter.unnecessarySimpa false
namespace Go.Proofs.Ytemnojaoickjfaa
open Go Go.V

def lN (h : Nat → Sp) : List Nat → Sp
  | [] => zS
  | i :: r => addS (h i) (lN h r)
theorem lN_app (h : Nat → Sp) : ∀ (l r : List Nat), lN h (l ++ r) = addS (lN h l) (lN h r)
  | [], r => (z_addS _).symm
  | p :: l, r => by
    show addS (h p) (lN h (l ++ r)) = _
    rw [lN_app h l r, ← addS_assoc]
    rfl
theorem sS_filter (P : Nat → Bool) (h : Nat → Sp) : ∀ n, sS (fun i => if P i = true then h i else zS) n = lN h ((List.range n).filter P)
  | 0 => rfl
  | n + 1 => by
    unfold sS
    rw [sS_filter P h n, List.range_succ, List.filter_append, lN_app]
    cases hp : P n with
    | true => simp [hp, lN, addS_z]
    | false => simp [hp, lN, addS_z]
theorem lN_take (h : Nat → Sp) (l : List Nat) : ∀ k, k ≤ l.length → sS (fun i => h (l[i]?.getD 0)) k = lN h (l.take k)
  | 0, _ => by simp [sS, lN]
  | k + 1, hk => by
    unfold sS
    rw [lN_take h l k (by omega), List.take_add_one, List.getElem?_eq_getElem (by omega), lN_app]
    simp [lN, addS_z]
theorem lN_get (h : Nat → Sp) (l : List Nat) : sS (fun i => h (l[i]?.getD 0)) l.length = lN h l := by
  rw [lN_take h l _ (Nat.le_refl _), List.take_length]
theorem lS_filt (F : Pa → Sp) (f : Pa → Bool) : ∀ t : List Pa, (∀ p ∈ t, f p = false → F p = zS) → lS F (t.filter f) = lS F t
  | [], _ => rfl
  | p :: t, h => by
    have ih := lS_filt F f t fun q hq => h q (by simp [hq])
    cases hf : f p with
    | true =>
      rw [List.filter_cons, hf, if_pos rfl]
      show addS (F p) (lS F (t.filter f)) = addS (F p) (lS F t)
      rw [ih]
    | false =>
      rw [List.filter_cons, hf]
      show lS F (t.filter f) = addS (F p) (lS F t)
      rw [ih, h p (by simp) hf, z_addS]

/-- What a person owes by a matching is what they owe by their part of it. -/
theorem ow_part {b : FB} {w : Int} {t s : List Pa} (ht : UM b t) (hs : UM (ofB b w) s) (hts : t.filter (isW b w) = s.map (toP b w)) : owC b t w = owC (ofB b w) s w := by
  have l1 : (ofB b w).ones.length = (ixL b.ones w).length := ix_len _ _
  have l2 : (ofB b w).others.length = (ixL b.others w).length := ix_len _ _
  have hmem : ∀ p, p ∈ t → whP b p = w → ∃ q ∈ s, p = toP b w q := fun p hp hw => by
    have : p ∈ t.filter (isW b w) := List.mem_filter.2 ⟨hp, decide_eq_true hw⟩
    rw [hts] at this
    obtain ⟨q, hq, e⟩ := List.mem_map.1 this
    exact ⟨q, hq, e.symm⟩
  have hmem2 : ∀ q ∈ s, toP b w q ∈ t := fun q hq => by
    have : toP b w q ∈ t.filter (isW b w) := by rw [hts]; exact List.mem_map.2 ⟨q, hq, rfl⟩
    exact (List.mem_filter.1 this).1
  unfold owC
  have e1 : lS (prF b w) t = lS (prF (ofB b w) w) s := by
    rw [← lS_filt (prF b w) (isW b w) t fun p _ hf => by
      have hf2 : ¬ (one b p.one.toNat).who = w := of_decide_eq_false hf
      unfold prF
      rw [if_neg hf2], hts, lS_map]
    refine lS_congr fun p hp => ?_
    obtain ⟨h1, h2, h3⟩ := hs.p p hp
    unfold prF toP
    dsimp only
    rw [(one_to h1.1 h1.2).1, (oth_to h2.1 h2.2).1]
    rfl
  have e2 : sS (onF b t w) b.ones.length = sS (onF (ofB b w) s w) (ofB b w).ones.length := by
    have a1 : sS (onF b t w) b.ones.length = sS (fun i => if decide ((one b i).who = w) = true then (if inO t i = false then endsL b.base (one b i).cord else zS) else zS) b.ones.length := sS_congr fun i _ => by
      unfold onF
      by_cases h1 : (one b i).who = w
      · rw [if_pos (decide_eq_true h1)]
        by_cases h2 : inO t i = false
        · rw [if_pos ⟨h1, h2⟩, if_pos h2]
        · rw [if_neg (fun x => h2 x.2), if_neg h2]
      · rw [if_neg (fun x => h1 x.1), if_neg (by rw [decide_eq_false h1]; exact Bool.false_ne_true)]
    rw [a1, sS_filter, l1]
    have a2 : ((List.range b.ones.length).filter fun i => decide ((one b i).who = w)) = ixL b.ones w := rfl
    rw [a2, ← lN_get]
    refine sS_congr fun k hk => ?_
    have hg : (ixL b.ones w)[k]?.getD 0 = (ixL b.ones w)[k] := by rw [List.getElem?_eq_getElem hk]; rfl
    have ho : one (ofB b w) k = one b ((ixL b.ones w)[k]) := minL_get hk
    have hw := (ix_mem.1 (List.getElem_mem hk)).2
    have hw2 : (one b ((ixL b.ones w)[k])).who = w := hw
    rw [hg]
    unfold onF
    rw [ho]
    have hin : inO s k = inO t ((ixL b.ones w)[k] : Nat) := by
      rw [Bool.eq_iff_iff]
      unfold inO
      simp only [List.any_eq_true, decide_eq_true_eq]
      constructor
      · rintro ⟨q, hq, e⟩
        refine ⟨toP b w q, hmem2 q hq, ?_⟩
        show toI (ixL b.ones w) q.one = _
        rw [e]
        unfold toI
        rw [Int.toNat_natCast, hg]
      · rintro ⟨p, hp, e⟩
        have hpw : whP b p = w := by unfold whP; rw [e, Int.toNat_natCast]; exact hw2
        obtain ⟨q, hq, rfl⟩ := hmem p hp hpw
        refine ⟨q, hq, ?_⟩
        have h1 := (hs.p q hq).1
        have e' : toI (ixL b.ones w) q.one = toI (ixL b.ones w) (k : Nat) := by
          have e3 : toI (ixL b.ones w) q.one = ((ixL b.ones w)[k] : Nat) := e
          rw [e3]
          unfold toI
          rw [Int.toNat_natCast, hg]
        exact toI_inj (ix_nd _ _) (by rw [← l1]; exact h1) (by omega) e'
    rw [hin]
    by_cases h2 : inO t ((ixL b.ones w)[k] : Nat) = false
    · rw [if_pos h2, if_pos ⟨hw2, h2⟩]
    · rw [if_neg h2, if_neg (fun x => h2 x.2)]
  have e3 : sS (otF b t w) b.others.length = sS (otF (ofB b w) s w) (ofB b w).others.length := by
    have a1 : sS (otF b t w) b.others.length = sS (fun i => if decide ((oth b i).who = w) = true then (if inT t i = false then endsL b.base (oth b i).cord else zS) else zS) b.others.length := sS_congr fun i _ => by
      unfold otF
      by_cases h1 : (oth b i).who = w
      · rw [if_pos (decide_eq_true h1)]
        by_cases h2 : inT t i = false
        · rw [if_pos ⟨h1, h2⟩, if_pos h2]
        · rw [if_neg (fun x => h2 x.2), if_neg h2]
      · rw [if_neg (fun x => h1 x.1), if_neg (by rw [decide_eq_false h1]; exact Bool.false_ne_true)]
    rw [a1, sS_filter, l2]
    have a2 : ((List.range b.others.length).filter fun i => decide ((oth b i).who = w)) = ixL b.others w := rfl
    rw [a2, ← lN_get]
    refine sS_congr fun k hk => ?_
    have hg : (ixL b.others w)[k]?.getD 0 = (ixL b.others w)[k] := by rw [List.getElem?_eq_getElem hk]; rfl
    have ho : oth (ofB b w) k = oth b ((ixL b.others w)[k]) := minL_get hk
    have hw := (ix_mem.1 (List.getElem_mem hk)).2
    have hw2 : (oth b ((ixL b.others w)[k])).who = w := hw
    rw [hg]
    unfold otF
    rw [ho]
    have hin : inT s k = inT t ((ixL b.others w)[k] : Nat) := by
      rw [Bool.eq_iff_iff]
      unfold inT
      simp only [List.any_eq_true, decide_eq_true_eq]
      constructor
      · rintro ⟨q, hq, e⟩
        refine ⟨toP b w q, hmem2 q hq, ?_⟩
        show toI (ixL b.others w) q.other = _
        rw [e]
        unfold toI
        rw [Int.toNat_natCast, hg]
      · rintro ⟨p, hp, e⟩
        have hpw : whP b p = w := by rw [← wh_oth ht hp, e, Int.toNat_natCast]; exact hw2
        obtain ⟨q, hq, rfl⟩ := hmem p hp hpw
        refine ⟨q, hq, ?_⟩
        have h1 := (hs.p q hq).2.1
        have e' : toI (ixL b.others w) q.other = toI (ixL b.others w) (k : Nat) := by
          have e3 : toI (ixL b.others w) q.other = ((ixL b.others w)[k] : Nat) := e
          rw [e3]
          unfold toI
          rw [Int.toNat_natCast, hg]
        exact toI_inj (ix_nd _ _) (by rw [← l2]; exact h1) (by omega) e'
    rw [hin]
    by_cases h2 : inT t ((ixL b.others w)[k] : Nat) = false
    · rw [if_pos h2, if_pos ⟨hw2, h2⟩]
    · rw [if_neg h2, if_neg (fun x => h2 x.2)]
  rw [e1, e2, e3]
theorem inO_perm {t s : List Pa} (h : t.Perm s) (i : Int) : inO t i = inO s i := by
  rw [Bool.eq_iff_iff]
  unfold inO
  simp only [List.any_eq_true, decide_eq_true_eq, h.mem_iff]
theorem inT_perm {t s : List Pa} (h : t.Perm s) (i : Int) : inT t i = inT s i := by
  rw [Bool.eq_iff_iff]
  unfold inT
  simp only [List.any_eq_true, decide_eq_true_eq, h.mem_iff]
theorem ow_perm (b : FB) {t s : List Pa} (h : t.Perm s) (who : Int) : owC b t who = owC b s who := by
  unfold owC
  rw [lS_perm _ h]
  congr 1
  congr 1
  · exact sS_congr fun i _ => by unfold onF; rw [inO_perm h]
  · exact sS_congr fun i _ => by unfold otF; rw [inT_perm h]
theorem rg_part (b : FB) (w : Int) : rgK b w (lrgL b) (lrgL b).length = rgK (ofB b w) w (lrgL (ofB b w)) (lrgL (ofB b w)).length := by
  refine rg_same (fun t ht => ?_) fun s hs => ?_
  · have h1 := lrg_iff.1 ht
    have hu := gm_um h1.1
    have hp := um_part (w := w) hu
    have hl : srtM ((t.filter (isW b w)).map (frP b w)) ∈ lrgL (ofB b w) := lrg_iff.2 ⟨um_gm hp, by
      rw [(srt_perm _).length_eq, List.length_map, part_most hu h1.2]⟩
    refine ⟨_, hl, ?_⟩
    rw [ow_eq (lrg_iff.1 hl).1, ow_eq h1.1, ow_perm _ (srt_perm _)]
    exact (ow_part hu hp (map_to_fr (um_filter hu _) fun p hp => of_decide_eq_true (List.mem_filter.1 hp).2).symm).symm
  · have h1 := lrg_iff.1 hs
    have hu := gm_um h1.1
    have hf := gm_um (fst_gm b)
    have hr := um_rep hf hu
    have hpm := part_most hf rfl w
    have hsp := filt_split (isW b w) (fstM b)
    have hl : srtM (repM b w (fstM b) s) ∈ lrgL b := lrg_iff.2 ⟨um_gm hr, by
      rw [(srt_perm _).length_eq, rep_len, h1.2]
      omega⟩
    refine ⟨_, hl, ?_⟩
    rw [ow_eq (lrg_iff.1 hl).1, ow_eq h1.1, ow_perm _ (srt_perm _)]
    refine ow_part hr hu ?_
    unfold repM
    rw [List.filter_append, List.filter_filter]
    have e1 : ((fstM b).filter fun a => isW b w a && !isW b w a) = [] := by
      rw [List.filter_eq_nil_iff]
      intro p _
      cases isW b w p <;> simp
    have e2 : (s.map (toP b w)).filter (isW b w) = s.map (toP b w) := List.filter_eq_self.2 fun p hp => decide_eq_true ((um_to hu).2 p hp)
    rw [e1, e2, List.nil_append]

theorem c69 (l : List En) (w : Int) (hs : SmE l) : Ctr Try.prog 69 [ES l, .int w] (ES (minL l w)) := by
  refine ctr_of_wp hmix Try.func69 m69 rfl ?_
  unfold v69
  have hn := hs.n
  obtain ⟨K, hK⟩ : ∃ K : Nat → List En, ∀ k, K k = (l.take k).filter fun e => decide (e.who = w) := ⟨_, fun _ => rfl⟩
  have hKn : minL l w = K l.length := by rw [hK, List.take_length]; rfl
  have hK0 : K 0 = [] := by rw [hK]; rfl
  have hKs : ∀ k, k < l.length → K (k + 1) = K k ++ (if (l[k]?.getD default).who = w then [l[k]?.getD default] else []) := fun k hk => by
    rw [hK, hK, List.take_add_one, List.filter_append, List.getElem?_eq_getElem hk]
    congr 1
    by_cases e : (l[k]).who = w <;> simp [e]
  have hKl : ∀ k, (K k).length ≤ l.length := fun k => by
    rw [hK]
    refine Nat.le_trans (List.length_filter_le _ _) ?_
    rw [List.length_take]
    omega
  rw [hKn]
  simp -failIfUnchanged (disch := first | omega | (simp <;> omega) | fail) only [go_sem, simprocAttr]
  refine wp_loop' Nat (fun k => ⟨[(0, ES l), (1, .int w), (5, .sl 3 ((K k).map EN) (.own 5)), (6, .int k)], [], [(5, (K k).length)], none⟩) (fun k => k ≤ l.length) (fun k => l.length - k) 0 (by simp) (by simp -failIfUnchanged (disch := first | omega | (simp <;> omega) | fail) only [go_sem, simprocAttr]; simp [hK0]) ?_
  intro k hk
  have hk : k ≤ l.length := hk
  have hkl := hKl k
  simp -failIfUnchanged (disch := first | omega | (simp <;> omega) | fail) only [go_sem, simprocAttr]
  refine wcond_dec (fun h => ?_) (fun h => ?_)
  · have hlt : k < l.length := by omega
    have hks := hKs k hlt
    obtain ⟨x, hx⟩ : ∃ x, l[k]?.getD default = x := ⟨_, rfl⟩
    rw [hx] at hks
    simp -failIfUnchanged (disch := first | omega | (simp <;> omega) | fail) only [go_sem, simprocAttr, hx]
    refine wcond_dec (fun h2 => ?_) (fun h2 => ?_)
    · rw [if_pos h2] at hks
      simp -failIfUnchanged (disch := first | omega | (simp <;> omega) | fail) only [go_sem, simprocAttr, hx]
      refine ⟨k + 1, by dsimp only; omega, by dsimp only; omega, ?_⟩
      dsimp only
      rw [hks]
      simp -failIfUnchanged (disch := first | omega | (simp <;> omega) | fail) only [go_sem, simprocAttr]
      try simp
    · rw [if_neg h2, List.append_nil] at hks
      simp -failIfUnchanged (disch := first | omega | (simp <;> omega) | fail) only [go_sem, simprocAttr]
      refine ⟨k + 1, by dsimp only; omega, by dsimp only; omega, ?_⟩
      dsimp only
      rw [hks]
      simp -failIfUnchanged (disch := first | omega | (simp <;> omega) | fail) only [go_sem, simprocAttr]
      try simp
  · have e : k = l.length := by omega
    subst e
    simp -failIfUnchanged (disch := first | omega | (simp <;> omega) | fail) only [go_sem, simprocAttr]
    try simp
theorem c24 (b : FB) (hs : SmF b) (w : Int) : Ctr Try.prog 24 [FK b, .int w] (FK (ofB b w)) := by
  refine ctr_of_wp hmix Try.func24 m24 rfl ?_
  unfold v24
  simp -failIfUnchanged (disch := first | omega | (simp <;> omega) | fail) only [go_sem, simprocAttr]
  refine wcall (c16 b hs) ?_
  simp -failIfUnchanged (disch := first | omega | (simp <;> omega) | fail) only [go_sem, simprocAttr]
  refine wcall (c69 _ w hs.ones) ?_
  simp -failIfUnchanged (disch := first | omega | (simp <;> omega) | fail) only [go_sem, simprocAttr]
  refine wcall (c69 _ w hs.others) ?_
  simp -failIfUnchanged (disch := first | omega | (simp <;> omega) | fail) only [go_sem, simprocAttr]
  try simp
theorem few_10 {b : FB} (hv : VF b) : 0 ≤ fewI b ∧ fewI b ≤ 10 := by
  have := fst_ones b
  have := hv.n1
  have := hv.n2
  unfold fewI
  omega
theorem fSm_bd {b : FB} (hv : VF b) : ∀ k : Nat, 0 ≤ fSm b k ∧ fSm b k ≤ 10 * k
  | 0 => by simp [fSm]
  | k + 1 => by
    have h1 := fSm_bd hv k
    have h2 := few_10 (vf_of2 hv (k : Nat))
    unfold fSm
    omega

set_option maxRecDepth 10000 in
theorem c4 (b : FB) : Ctr Try.prog 4 [FK b] (.bool true) := by
  refine ctr_of_wp hmix Try.func4 m4 rfl ?_
  unfold v4
  simp -failIfUnchanged (disch := first | omega | (simp <;> omega) | fail) only [go_sem, simprocAttr]
  refine wcall (c22 b) ?_
  cases hr : rdyF b with
  | false =>
    simp -failIfUnchanged (disch := first | omega | (simp <;> omega) | fail) only [go_sem, simprocAttr]
    refine wcall c15 ?_
    simp -failIfUnchanged (disch := first | omega | (simp <;> omega) | fail) only [go_sem, simprocAttr]
  | true =>
    obtain ⟨hs, hc, hv⟩ := rdy_of hr
    have k23 := c23 b hs hc
    have hf := few_10 hv
    have hpe := hv.pe
    have hsum := few_sum hv (P := b.persons.toNat) (by omega)
    obtain ⟨F, hF⟩ : ∃ F, fewI b = F := ⟨_, rfl⟩
    rw [hF] at k23 hf hsum
    have d0 : decide (¬ (0 : Int) = 0) = false := rfl
    simp -failIfUnchanged (disch := first | omega | (simp <;> omega) | fail) only [go_sem, simprocAttr]
    refine wcall k23 ?_
    simp -failIfUnchanged (disch := first | omega | (simp <;> omega) | fail) only [go_sem, simprocAttr]
    refine wp_loop' Nat (fun k => ⟨[(1, .ptr 1 0), (3, .int (F - fSm b k)), (5, .int k)], [(1, ⟨FKc b, false⟩)], [], none⟩) (fun k => (k : Int) ≤ b.persons) (fun k => (b.persons - k).toNat) 0 (by show ((0 : Nat) : Int) ≤ b.persons; omega) (by simp -failIfUnchanged (disch := first | omega | (simp <;> omega) | fail) only [go_sem, simprocAttr]; simp [fSm]) ?_
    intro k hk
    have hk : (k : Int) ≤ b.persons := hk
    simp -failIfUnchanged (disch := first | omega | (simp <;> omega) | fail) only [go_sem, simprocAttr]
    refine wcond_dec (fun h => ?_) (fun h => ?_)
    · have hoe : owE b k = 0 := ask_ok hc (by
        unfold within
        apply decide_eq_true
        rw [w64_id (by omega)]
        omega)
      have hoe2 : owE (ofB b (k : Nat)) k = 0 := ask_ok (chk_ofB hc _) (by
        unfold within
        apply decide_eq_true
        show 0 ≤ (k : Int) ∧ (k : Int) ≤ w64 (b.persons - 1)
        rw [w64_id (by omega)]
        omega)
      have a1 := c24 b hs (k : Nat)
      have a2 := c23 (ofB b (k : Nat)) (sm_of2 hs _) (chk_ofB hc _)
      have a3 := c25 b hs k
      have a4 := c25 (ofB b (k : Nat)) (sm_of2 hs _) k
      unfold owdR at a3 a4
      rw [hoe, if_pos rfl] at a3
      rw [hoe2, if_pos rfl, ← rg_part] at a4
      have hst : fSm b (k + 1) = fSm b k + fewI (ofB b (k : Nat)) := rfl
      have hb1 := fSm_bd hv k
      have hb2 := few_10 (vf_of2 hv (k : Nat))
      generalize fewI (ofB b (k : Nat)) = G at *
      generalize rgK b k (lrgL b) (lrgL b).length = R at *
      have d2 : decide (¬ (R.lo = R.lo ∧ R.hi = R.hi)) = false := decide_eq_false (by simp)
      unfold FK at a1 a2 a4
      simp -failIfUnchanged (disch := first | omega | (simp <;> omega) | fail) only [go_sem, simprocAttr]
      refine wcall a1 ?_
      simp -failIfUnchanged (disch := first | omega | (simp <;> omega) | fail) only [go_sem, simprocAttr]
      refine wcall a2 ?_
      simp -failIfUnchanged (disch := first | omega | (simp <;> omega) | fail) only [go_sem, simprocAttr]
      refine wcall a3 ?_
      simp -failIfUnchanged (disch := first | omega | (simp <;> omega) | fail) only [go_sem, simprocAttr]
      refine wcall a4 ?_
      simp -failIfUnchanged (disch := first | omega | (simp <;> omega) | fail) only [go_sem, simprocAttr, d0, d2]
      refine ⟨k + 1, by dsimp only; omega, by dsimp only; omega, ?_⟩
      dsimp only
      rw [hst]
      simp -failIfUnchanged (disch := first | omega | (simp <;> omega) | fail) only [go_sem, simprocAttr]
      simp
      omega
    · have e : k = b.persons.toNat := by omega
      have e2 : decide (F - fSm b k = 0) = true := decide_eq_true (by rw [e, ← hsum]; omega)
      simp -failIfUnchanged (disch := first | omega | (simp <;> omega) | fail) only [go_sem, simprocAttr, e2]
      refine wcall c15 ?_
      simp -failIfUnchanged (disch := first | omega | (simp <;> omega) | fail) only [go_sem, simprocAttr]

end Go.Proofs.Ytemnojaoickjfaa
