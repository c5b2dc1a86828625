/- Merged by program: T34, T35, T36, T37, T38, T39, T40, T42. -/
import Derived.Test.YtemnojaoickjfaaM5
import Derived.DeepKeys4
/- What a person owes, as the document has it. -/
set_option linter.unusedSimpArgs false
set_option linter.unusedVariables false
set_option linter.unnecessarySimpa false
namespace Go.Proofs.Ytemnojaoickjfaa
open Go Go.V

/-- The sums over the pairs, the entries of Ones, those of Others. -/
def dwP (b : FB) (t : List Pa) (who : Int) : Nat → Sp
  | 0 => ⟨0, 0⟩
  | k + 1 => if (one b (t[k]?.getD default).one.toNat).who = who then addS (dwP b t who k) (pcI b (one b (t[k]?.getD default).one.toNat) (oth b (t[k]?.getD default).other.toNat)) else dwP b t who k
def dw1 (b : FB) (t : List Pa) (who : Int) (s : Sp) : Nat → Sp
  | 0 => s
  | i + 1 => if (one b i).who = who ∧ inO t i = false then addS (dw1 b t who s i) (endsL b.base (one b i).cord) else dw1 b t who s i
def dw2 (b : FB) (t : List Pa) (who : Int) (s : Sp) : Nat → Sp
  | 0 => s
  | j + 1 => if (oth b j).who = who ∧ inT t j = false then addS (dw2 b t who s j) (endsL b.base (oth b j).cord) else dw2 b t who s j
def dwI (b : FB) (t : List Pa) (who : Int) : Sp := dw2 b t who (dw1 b t who (dwP b t who t.length) b.ones.length) b.others.length

theorem dwP_bd {b : FB} (hv : VF b) {t : List Pa} (hg : GM b b.ones.length t) (who : Int) : ∀ k : Nat, k ≤ t.length → SpB (dwP b t who k) k
  | 0, _ => ⟨Int.le_refl _, Int.le_refl _, by simp [dwP]⟩
  | k + 1, hk => by
    have ih := dwP_bd hv hg who k (by omega)
    obtain ⟨i, j, e, hi, hj, hc⟩ := gm_at hg (k := k) (by omega)
    unfold dwP
    rw [e]
    simp only [Int.toNat_natCast]
    split
    · exact spB_le (spB_add ih (ends_bd hv (com_v2 hv hi hj hc))) (by omega)
    · exact spB_le ih (by omega)
theorem dw1_bd {b : FB} (hv : VF b) (t : List Pa) (who : Int) {s : Sp} {n : Int} (hs : SpB s n) : ∀ k : Nat, k ≤ b.ones.length → SpB (dw1 b t who s k) (n + k)
  | 0, _ => by simpa [dw1] using hs
  | k + 1, hk => by
    have ih := dw1_bd hv t who hs k (by omega)
    unfold dw1
    split
    · exact spB_le (spB_add ih (ends_bd hv (one_v hv (by omega)).c)) (by omega)
    · exact spB_le ih (by omega)
theorem dw2_bd {b : FB} (hv : VF b) (t : List Pa) (who : Int) {s : Sp} {n : Int} (hs : SpB s n) : ∀ k : Nat, k ≤ b.others.length → SpB (dw2 b t who s k) (n + k)
  | 0, _ => by simpa [dw2] using hs
  | k + 1, hk => by
    have ih := dw2_bd hv t who hs k (by omega)
    unfold dw2
    split
    · exact spB_le (spB_add ih (ends_bd hv (oth_v hv (by omega)).c)) (by omega)
    · exact spB_le ih (by omega)
theorem c91s (a c : Sp) {n : Int} (ha : SpB a n) (hn : n ≤ 100) (hc : 0 ≤ c.lo ∧ c.lo ≤ c.hi ∧ c.hi < 10000) : Ctr Try.prog 91 [SP a, SP c] (SP (addS a c)) := by
  have k := c91 a c
  have := ha.l
  have := ha.m
  have := ha.h
  rw [w64_id (by omega), w64_id (by omega)] at k
  exact k

set_option maxRecDepth 10000 in
theorem c57 (b : FB) (hv : VF b) (t : List Pa) (hg : GM b b.ones.length t) (who : Int) : Ctr Try.prog 57 [FK b, PS t, .int who] (SP (dwI b t who)) := by
  refine ctr_of_wp hmix Try.func57 m57 rfl ?_
  unfold v57 dwI
  have htl := gm_len hg
  have hn1 := hv.n1
  have hn2 := hv.n2
  have hbp := bp_of hv
  have hpl := hv.pl
  simp -failIfUnchanged (disch := first | omega | (simp <;> omega) | fail) only [go_sem, simprocAttr]
  refine wp_loop' Nat (fun k => ⟨[(1, PS t), (2, .int who), (3, .ptr 3 0), (6, .ptr 6 0), (7, .ptr 7 0), (8, .int k)], [(7, ⟨[.int (dwP b t who k).lo, .int (dwP b t who k).hi], false⟩), (6, ⟨[.int 0, .int 0], false⟩), (3, ⟨FKc b, false⟩)], [], none⟩) (fun k => k ≤ t.length) (fun k => t.length - k) 0 (by simp) (by simp -failIfUnchanged (disch := first | omega | (simp <;> omega) | fail) only [go_sem, simprocAttr]; simp [dwP]) ?_
  intro k hk
  have hk : k ≤ t.length := hk
  simp -failIfUnchanged (disch := first | omega | (simp <;> omega) | fail) only [go_sem, simprocAttr]
  refine wcond_dec (fun h1 => ?_) (fun h1 => ?_)
  · have hkl : k < t.length := by omega
    obtain ⟨p, q, e, hp, hq, hc⟩ := gm_at hg hkl
    have hst : dwP b t who (k + 1) = if (one b p).who = who then addS (dwP b t who k) (pcI b (one b p) (oth b q)) else dwP b t who k := by
      simp only [dwP, e, Int.toNat_natCast]
    have hbd := dwP_bd hv hg who k (by omega)
    have hvc := com_v2 hv hp hq hc
    have hfb : fitB (comL (one b p).cord (oth b q).cord) = true := by
      unfold comB at hc
      simp only [Bool.and_eq_true] at hc
      exact hc.2.2
    have x2 := (oth_v hv hq).c
    have hx2 := x2.n
    have k87 := c87 b hbp (one b p) (oth b q) (one_v hv hp).c x2 (by omega) hfb
    have k91 := c91s (dwP b t who k) (pcI b (one b p) (oth b q)) hbd (by omega) (ends_bd hv hvc)
    have g1 : b.ones[p]?.getD default = one b p := rfl
    have g2 : b.others[q]?.getD default = oth b q := rfl
    generalize dwP b t who k = S at *
    simp -failIfUnchanged (disch := first | omega | (simp <;> omega) | fail) only [go_sem, simprocAttr, e, g1]
    refine wcond_dec (fun h2 => ?_) (fun h2 => ?_)
    · rw [if_pos h2] at hst
      simp -failIfUnchanged (disch := first | omega | (simp <;> omega) | fail) only [go_sem, simprocAttr, e, g2]
      refine wcall k87 ?_
      simp -failIfUnchanged (disch := first | omega | (simp <;> omega) | fail) only [go_sem, simprocAttr]
      refine wcall k91 ?_
      simp -failIfUnchanged (disch := first | omega | (simp <;> omega) | fail) only [go_sem, simprocAttr]
      refine ⟨k + 1, by dsimp only; omega, by dsimp only; omega, ?_⟩
      dsimp only
      rw [hst]
      simp -failIfUnchanged (disch := first | omega | (simp <;> omega) | fail) only [go_sem, simprocAttr]
      try simp
    · rw [if_neg h2] at hst
      simp -failIfUnchanged (disch := first | omega | (simp <;> omega) | fail) only [go_sem, simprocAttr]
      refine ⟨k + 1, by dsimp only; omega, by dsimp only; omega, ?_⟩
      dsimp only
      rw [hst]
      simp -failIfUnchanged (disch := first | omega | (simp <;> omega) | fail) only [go_sem, simprocAttr]
      try simp
  · have ek : k = t.length := by omega
    subst ek
    have hbd0 := dwP_bd hv hg who t.length (Nat.le_refl _)
    generalize dwP b t who t.length = S0 at *
    simp -failIfUnchanged (disch := first | omega | (simp <;> omega) | fail) only [go_sem, simprocAttr]
    refine wp_loop' Nat (fun i => ⟨[(1, PS t), (2, .int who), (3, .ptr 3 0), (6, .ptr 6 0), (7, .ptr 7 0), (10, .int i)], [(7, ⟨[.int (dw1 b t who S0 i).lo, .int (dw1 b t who S0 i).hi], false⟩), (6, ⟨[.int 0, .int 0], false⟩), (3, ⟨FKc b, false⟩)], [], none⟩) (fun i => i ≤ b.ones.length) (fun i => b.ones.length - i) 0 (by simp) (by simp -failIfUnchanged (disch := first | omega | (simp <;> omega) | fail) only [go_sem, simprocAttr]; simp [dw1]) ?_
    intro i hi
    have hi : i ≤ b.ones.length := hi
    simp -failIfUnchanged (disch := first | omega | (simp <;> omega) | fail) only [go_sem, simprocAttr]
    refine wcond_dec (fun h2 => ?_) (fun h2 => ?_)
    · have hil : i < b.ones.length := by omega
      have hve := one_v hv hil
      have hst : dw1 b t who S0 (i + 1) = if (one b i).who = who ∧ inO t i = false then addS (dw1 b t who S0 i) (endsL b.base (one b i).cord) else dw1 b t who S0 i := rfl
      have hbd := dw1_bd hv t who hbd0 i (by omega)
      have k44 := c44 t i (by omega)
      have k92 := c92 b hbp _ (cd_iff.2 hve.c)
      have k91 := c91s (dw1 b t who S0 i) (endsL b.base (one b i).cord) hbd (by omega) (ends_bd hv hve.c)
      have g1 : b.ones[i]?.getD default = one b i := rfl
      obtain ⟨u, hu⟩ : ∃ u, (t.any fun p => decide (p.one = (i : Int))) = u := ⟨_, rfl⟩
      have hu2 : inO t i = u := hu
      rw [hu2] at hst
      rw [hu] at k44
      generalize dw1 b t who S0 i = S at *
      obtain ⟨w, hw⟩ : ∃ w, decide ((one b i).who = who) = w := ⟨_, rfl⟩
      simp -failIfUnchanged (disch := first | omega | (simp <;> omega) | fail) only [go_sem, simprocAttr, g1, hw]
      cases w with
      | false =>
        have hw := of_decide_eq_false hw
        rw [if_neg (fun x => hw x.1)] at hst
        simp -failIfUnchanged (disch := first | omega | (simp <;> omega) | fail) only [go_sem, simprocAttr]
        refine ⟨i + 1, by dsimp only; omega, by dsimp only; omega, ?_⟩
        dsimp only
        rw [hst]
        simp -failIfUnchanged (disch := first | omega | (simp <;> omega) | fail) only [go_sem, simprocAttr]
        try simp
      | true =>
        have hw := of_decide_eq_true hw
        simp -failIfUnchanged (disch := first | omega | (simp <;> omega) | fail) only [go_sem, simprocAttr]
        refine wcall k44 ?_
        cases u with
        | true =>
          rw [if_neg (fun x => by cases x.2)] at hst
          simp -failIfUnchanged (disch := first | omega | (simp <;> omega) | fail) only [go_sem, simprocAttr]
          refine ⟨i + 1, by dsimp only; omega, by dsimp only; omega, ?_⟩
          dsimp only
          rw [hst]
          simp -failIfUnchanged (disch := first | omega | (simp <;> omega) | fail) only [go_sem, simprocAttr]
          try simp
        | false =>
          rw [if_pos ⟨hw, rfl⟩] at hst
          simp -failIfUnchanged (disch := first | omega | (simp <;> omega) | fail) only [go_sem, simprocAttr, g1]
          refine wcall k92 ?_
          simp -failIfUnchanged (disch := first | omega | (simp <;> omega) | fail) only [go_sem, simprocAttr]
          refine wcall k91 ?_
          simp -failIfUnchanged (disch := first | omega | (simp <;> omega) | fail) only [go_sem, simprocAttr]
          refine ⟨i + 1, by dsimp only; omega, by dsimp only; omega, ?_⟩
          dsimp only
          rw [hst]
          simp -failIfUnchanged (disch := first | omega | (simp <;> omega) | fail) only [go_sem, simprocAttr]
          try simp
    · have ei : i = b.ones.length := by omega
      subst ei
      have hbd1 := dw1_bd hv t who hbd0 b.ones.length (Nat.le_refl _)
      generalize dw1 b t who S0 b.ones.length = S1 at *
      simp -failIfUnchanged (disch := first | omega | (simp <;> omega) | fail) only [go_sem, simprocAttr]
      refine wp_loop' Nat (fun i => ⟨[(1, PS t), (2, .int who), (3, .ptr 3 0), (6, .ptr 6 0), (7, .ptr 7 0), (11, .int i)], [(7, ⟨[.int (dw2 b t who S1 i).lo, .int (dw2 b t who S1 i).hi], false⟩), (6, ⟨[.int 0, .int 0], false⟩), (3, ⟨FKc b, false⟩)], [], none⟩) (fun i => i ≤ b.others.length) (fun i => b.others.length - i) 0 (by simp) (by simp -failIfUnchanged (disch := first | omega | (simp <;> omega) | fail) only [go_sem, simprocAttr]; simp [dw2]) ?_
      intro i hi
      have hi : i ≤ b.others.length := hi
      simp -failIfUnchanged (disch := first | omega | (simp <;> omega) | fail) only [go_sem, simprocAttr]
      refine wcond_dec (fun h2 => ?_) (fun h2 => ?_)
      · have hil : i < b.others.length := by omega
        have hve := oth_v hv hil
        have hst : dw2 b t who S1 (i + 1) = if (oth b i).who = who ∧ inT t i = false then addS (dw2 b t who S1 i) (endsL b.base (oth b i).cord) else dw2 b t who S1 i := rfl
        have hbd := dw2_bd hv t who hbd1 i (by omega)
        have k45 := c45 t i (by omega)
        have k92 := c92 b hbp _ (cd_iff.2 hve.c)
        have k91 := c91s (dw2 b t who S1 i) (endsL b.base (oth b i).cord) hbd (by omega) (ends_bd hv hve.c)
        have g1 : b.others[i]?.getD default = oth b i := rfl
        obtain ⟨u, hu⟩ : ∃ u, (t.any fun p => decide (p.other = (i : Int))) = u := ⟨_, rfl⟩
        have hu2 : inT t i = u := hu
        rw [hu2] at hst
        rw [hu] at k45
        generalize dw2 b t who S1 i = S at *
        obtain ⟨w, hw⟩ : ∃ w, decide ((oth b i).who = who) = w := ⟨_, rfl⟩
        simp -failIfUnchanged (disch := first | omega | (simp <;> omega) | fail) only [go_sem, simprocAttr, g1, hw]
        cases w with
        | false =>
          have hw := of_decide_eq_false hw
          rw [if_neg (fun x => hw x.1)] at hst
          simp -failIfUnchanged (disch := first | omega | (simp <;> omega) | fail) only [go_sem, simprocAttr]
          refine ⟨i + 1, by dsimp only; omega, by dsimp only; omega, ?_⟩
          dsimp only
          rw [hst]
          simp -failIfUnchanged (disch := first | omega | (simp <;> omega) | fail) only [go_sem, simprocAttr]
          try simp
        | true =>
          have hw := of_decide_eq_true hw
          simp -failIfUnchanged (disch := first | omega | (simp <;> omega) | fail) only [go_sem, simprocAttr]
          refine wcall k45 ?_
          cases u with
          | true =>
            rw [if_neg (fun x => by cases x.2)] at hst
            simp -failIfUnchanged (disch := first | omega | (simp <;> omega) | fail) only [go_sem, simprocAttr]
            refine ⟨i + 1, by dsimp only; omega, by dsimp only; omega, ?_⟩
            dsimp only
            rw [hst]
            simp -failIfUnchanged (disch := first | omega | (simp <;> omega) | fail) only [go_sem, simprocAttr]
            try simp
          | false =>
            rw [if_pos ⟨hw, rfl⟩] at hst
            simp -failIfUnchanged (disch := first | omega | (simp <;> omega) | fail) only [go_sem, simprocAttr, g1]
            refine wcall k92 ?_
            simp -failIfUnchanged (disch := first | omega | (simp <;> omega) | fail) only [go_sem, simprocAttr]
            refine wcall k91 ?_
            simp -failIfUnchanged (disch := first | omega | (simp <;> omega) | fail) only [go_sem, simprocAttr]
            refine ⟨i + 1, by dsimp only; omega, by dsimp only; omega, ?_⟩
            dsimp only
            rw [hst]
            simp -failIfUnchanged (disch := first | omega | (simp <;> omega) | fail) only [go_sem, simprocAttr]
            try simp
      · have ei : i = b.others.length := by omega
        subst ei
        simp -failIfUnchanged (disch := first | omega | (simp <;> omega) | fail) only [go_sem, simprocAttr]
        try simp

end Go.Proofs.Ytemnojaoickjfaa

/- What a person owes by a matching: both sides' sums are the same. -/
set_option linter.unusedSimpArgs false
set_option linter.unusedVariables false
set_option linter.unnecessarySimpa false
namespace Go.Proofs.Ytemnojaoickjfaa
open Go Go.V

def zS : Sp := ⟨0, 0⟩
theorem sp_ext {a c : Sp} (h1 : a.lo = c.lo) (h2 : a.hi = c.hi) : a = c := by
  cases a; cases c; simp at h1 h2; rw [h1, h2]
theorem addS_comm (a c : Sp) : addS a c = addS c a := sp_ext (Int.add_comm _ _) (Int.add_comm _ _)
theorem addS_assoc (a c d : Sp) : addS (addS a c) d = addS a (addS c d) := sp_ext (Int.add_assoc _ _ _) (Int.add_assoc _ _ _)
theorem addS_z (a : Sp) : addS a zS = a := sp_ext (Int.add_zero _) (Int.add_zero _)
theorem z_addS (a : Sp) : addS zS a = a := sp_ext (Int.zero_add _) (Int.zero_add _)
theorem addS_4 (a c d e : Sp) : addS (addS a c) (addS d e) = addS (addS a d) (addS c e) := sp_ext (by unfold addS; dsimp only; omega) (by unfold addS; dsimp only; omega)
def sS (f : Nat → Sp) : Nat → Sp
  | 0 => zS
  | n + 1 => addS (sS f n) (f n)
def lS (F : Pa → Sp) : List Pa → Sp
  | [] => zS
  | p :: r => addS (F p) (lS F r)
theorem sS_add (f g : Nat → Sp) : ∀ n, sS (fun j => addS (f j) (g j)) n = addS (sS f n) (sS g n)
  | 0 => (addS_z zS).symm
  | n + 1 => by
    unfold sS
    rw [sS_add f g n, addS_4]
theorem sS_congr {f g : Nat → Sp} : ∀ {n : Nat}, (∀ j, j < n → f j = g j) → sS f n = sS g n
  | 0, _ => rfl
  | n + 1, h => by
    unfold sS
    rw [sS_congr (fun j hj => h j (by omega)), h n (by omega)]
theorem sS_z : ∀ n, sS (fun _ => zS) n = zS
  | 0 => rfl
  | n + 1 => by unfold sS; rw [sS_z n, addS_z]
theorem sS_one (c : Nat) (x : Sp) : ∀ n, sS (fun j => if c = j then x else zS) n = if c < n then x else zS
  | 0 => rfl
  | n + 1 => by
    unfold sS
    rw [sS_one c x n]
    by_cases h : c < n
    · rw [if_pos h, if_neg (by omega), if_pos (by omega), addS_z]
    · rw [if_neg h]
      by_cases e : c = n
      · rw [if_pos e, if_pos (by omega), z_addS]
      · rw [if_neg e, if_neg (by omega), addS_z]
theorem lS_app (F : Pa → Sp) : ∀ (l r : List Pa), lS F (l ++ r) = addS (lS F l) (lS F r)
  | [], r => (z_addS _).symm
  | p :: l, r => by
    show addS (F p) (lS F (l ++ r)) = _
    rw [lS_app F l r, ← addS_assoc]
    rfl
/-- What the pair of an entry adds. -/
def hitS (F : Pa → Sp) : List Pa → Nat → Sp
  | [], _ => zS
  | p :: r, j => if p.other = (j : Int) then F p else hitS F r j
theorem hitS_no (F : Pa → Sp) : ∀ {l : List Pa} {j : Nat}, (∀ p ∈ l, p.other ≠ (j : Int)) → hitS F l j = zS
  | [], _, _ => rfl
  | p :: r, j, h => by
    unfold hitS
    rw [if_neg (h p (by simp)), hitS_no F fun q hq => h q (by simp [hq])]
theorem hitS_at (F : Pa → Sp) : ∀ {l : List Pa} {j : Nat} {p : Pa}, (l.Pairwise fun p q => p.other ≠ q.other) → p ∈ l → p.other = (j : Int) → hitS F l j = F p
  | [], _, _, _, h, _ => by simp at h
  | q :: r, j, p, hd, hp, hj => by
    unfold hitS
    rcases List.mem_cons.1 hp with rfl | hp
    · rw [if_pos hj]
    · have := (List.pairwise_cons.1 hd).1 p hp
      rw [if_neg (fun e => this (by rw [e, hj])), hitS_at F (List.pairwise_cons.1 hd).2 hp hj]
theorem sS_hit (F : Pa → Sp) (n : Nat) : ∀ {l : List Pa}, (l.Pairwise fun p q => p.other ≠ q.other) → (∀ p ∈ l, 0 ≤ p.other ∧ p.other < (n : Int)) → sS (hitS F l) n = lS F l
  | [], _, _ => sS_z n
  | p :: r, hd, hb => by
    have ih := sS_hit F n (List.pairwise_cons.1 hd).2 fun q hq => hb q (by simp [hq])
    have hp := hb p (by simp)
    have e : sS (hitS F (p :: r)) n = sS (fun j => addS (if p.other.toNat = j then F p else zS) (hitS F r j)) n := by
      refine sS_congr fun j hj => ?_
      show (if p.other = (j : Int) then F p else hitS F r j) = _
      by_cases e : p.other = (j : Int)
      · rw [if_pos e, if_pos (by omega), hitS_no F fun q hq => by
          have := (List.pairwise_cons.1 hd).1 q hq
          intro e2
          exact this (by rw [e, e2]), addS_z]
      · rw [if_neg e, if_neg (by omega), z_addS]
    rw [e, sS_add, sS_one, if_pos (by omega), ih]
    rfl

/-! The sums. -/
def prF (b : FB) (who : Int) (p : Pa) : Sp := if (one b p.one.toNat).who = who then pcI b (one b p.one.toNat) (oth b p.other.toNat) else zS
def onF (b : FB) (t : List Pa) (who : Int) (i : Nat) : Sp := if (one b i).who = who ∧ inO t i = false then endsL b.base (one b i).cord else zS
def otF (b : FB) (t : List Pa) (who : Int) (j : Nat) : Sp := if (oth b j).who = who ∧ inT t j = false then endsL b.base (oth b j).cord else zS
def owC (b : FB) (t : List Pa) (who : Int) : Sp := addS (lS (prF b who) t) (addS (sS (onF b t who) b.ones.length) (sS (otF b t who) b.others.length))

theorem dwP_eq (b : FB) (t : List Pa) (who : Int) : ∀ k, k ≤ t.length → dwP b t who k = lS (prF b who) (t.take k)
  | 0, _ => by simp [dwP, lS, zS]
  | k + 1, h => by
    have ih := dwP_eq b t who k (by omega)
    obtain ⟨p, hp⟩ : ∃ p, t[k]?.getD default = p := ⟨_, rfl⟩
    have hts : t.take (k + 1) = t.take k ++ [p] := by
      have e2 : t[k] = p := by rw [← hp, List.getElem?_eq_getElem (by omega)]; rfl
      rw [List.take_add_one, List.getElem?_eq_getElem (by omega), e2]; rfl
    unfold dwP
    rw [hp, hts, lS_app, ← ih]
    unfold lS lS prF
    by_cases h1 : (one b p.one.toNat).who = who
    · rw [if_pos h1, if_pos h1, addS_z]
    · rw [if_neg h1, if_neg h1, addS_z, addS_z]
theorem dw1_eq (b : FB) (t : List Pa) (who : Int) (s : Sp) : ∀ k, dw1 b t who s k = addS s (sS (onF b t who) k)
  | 0 => (addS_z s).symm
  | k + 1 => by
    unfold dw1 sS
    rw [dw1_eq b t who s k]
    unfold onF
    split
    · rw [addS_assoc]
    · rw [addS_z]
theorem dw2_eq (b : FB) (t : List Pa) (who : Int) (s : Sp) : ∀ k, dw2 b t who s k = addS s (sS (otF b t who) k)
  | 0 => (addS_z s).symm
  | k + 1 => by
    unfold dw2 sS
    rw [dw2_eq b t who s k]
    unfold otF
    split
    · rw [addS_assoc]
    · rw [addS_z]
theorem dw_eq (b : FB) (t : List Pa) (who : Int) : dwI b t who = owC b t who := by
  unfold dwI owC
  rw [dw2_eq, dw1_eq, dwP_eq b t who _ (Nat.le_refl _), List.take_length, addS_assoc]
theorem ow1_eq (b : FB) (t : List Pa) (who : Int) : ∀ k, ow1K b t who k = sS (onF b t who) k
  | 0 => rfl
  | k + 1 => by
    unfold ow1K sS
    rw [ow1_eq b t who k]
    unfold onF
    by_cases h : (one b k).who = who ∧ inO t k = false
    · rw [if_pos ⟨h.2, h.1⟩, if_pos h]
    · rw [if_neg (fun x => h ⟨x.2, x.1⟩), if_neg h, addS_z]
theorem any_inT {t : List Pa} {j : Nat} : inT t j = false ↔ ∀ p ∈ t, p.other ≠ (j : Int) := by
  unfold inT
  rw [List.any_eq_false]
  simp
theorem idx_neg {α : Type} {p : α → Bool} {l : List α} : idxF p l < 0 ↔ l.any p = false := by
  unfold idxF
  cases h : l.any p with
  | true => simp
  | false => simp
theorem oth_eq {b : FB} {t : List Pa} (hg : GM b b.ones.length t) (who : Int) {j : Nat} (hj : j < b.others.length) : (if (oth b j).who = who then othS b t j else zS) = addS (hitS (prF b who) t j) (otF b t who j) := by
  unfold othS otF
  by_cases hn : idxF (fun p : Pa => decide (p.other = (j : Int))) t < 0
  · rw [if_pos hn]
    have h1 := idx_neg.1 hn
    have h2 : inT t j = false := h1
    rw [hitS_no _ (any_inT.1 h2), z_addS]
    by_cases h : (oth b j).who = who
    · rw [if_pos h, if_pos ⟨h, h2⟩]
    · rw [if_neg h, if_neg (fun x => h x.1)]
  · rw [if_neg hn]
    obtain ⟨k, e1, hk, hkp⟩ := idx_at hn
    obtain ⟨p, q, e, hp, hq, hc⟩ := gm_at hg hk
    rw [e1, Int.toNat_natCast, e]
    rw [e] at hkp
    have hkp := of_decide_eq_true hkp
    dsimp only at hkp
    have : q = j := by omega
    subst this
    have h2 : inT t q = true := by
      cases h : inT t q with
      | true => rfl
      | false => exact absurd (idx_neg.2 h) hn
    have hmem : (⟨(p : Int), (q : Int)⟩ : Pa) ∈ t := by rw [← e]; exact mem_getD hk
    have hnn : ¬ ((oth b q).who = who ∧ true = false) := by simp
    rw [hitS_at (prF b who) hg.d hmem rfl, h2, if_neg hnn, addS_z]
    unfold prF
    dsimp only
    simp only [Int.toNat_natCast]
    have hw : (one b p).who = (oth b q).who := by
      unfold comB at hc
      simp only [Bool.and_eq_true, decide_eq_true_eq] at hc
      exact hc.1
    rw [hw]
theorem ow2_eq {b : FB} {t : List Pa} (hg : GM b b.ones.length t) (who : Int) (s : Sp) : ∀ k, k ≤ b.others.length → ow2K b t who s k = addS s (sS (fun j => addS (hitS (prF b who) t j) (otF b t who j)) k)
  | 0, _ => (addS_z s).symm
  | k + 1, h => by
    unfold ow2K sS
    rw [ow2_eq hg who s k (by omega), ← oth_eq hg who (by omega)]
    split
    · rw [addS_assoc]
    · rw [addS_z]
/-- What the program adds. -/
theorem ow_eq {b : FB} {t : List Pa} (hg : GM b b.ones.length t) (who : Int) : owdI b t who = owC b t who := by
  unfold owdI owC
  rw [ow2_eq hg who _ _ (Nat.le_refl _), sS_add, ow1_eq, sS_hit _ _ hg.d (fun p hp => (hg.p p hp).2.1), ← addS_assoc, addS_comm (sS (onF b t who) _), addS_assoc]

end Go.Proofs.Ytemnojaoickjfaa

/- FinesOwed. -/
set_option linter.unusedSimpArgs false
set_option linter.unusedVariables false
set_option linter.unnecessarySimpa false
namespace Go.Proofs.Ytemnojaoickjfaa
open Go Go.V

theorem c57o (b : FB) (hv : VF b) (t : List Pa) (hg : GM b b.ones.length t) (who : Int) : Ctr Try.prog 57 [FK b, PS t, .int who] (SP (owdI b t who)) := by
  have := c57 b hv t hg who
  rw [dw_eq, ← ow_eq hg] at this
  exact this

theorem c30 (b : FB) (hs : SmF b) (who : Int) : Ctr Try.prog 30 [FK b, .int who] (owdR b who) := by
  refine ctr_of_wp hmix Try.func30 m30 rfl ?_
  unfold v30 owdR
  have a1 := c75 b who
  have a2 := c74 b hs (within who 0 (w64 (b.persons - 1)))
  obtain ⟨e, hE⟩ : ∃ e, owE b who = e := ⟨_, rfl⟩
  have hE' : askF b (within who 0 (w64 (b.persons - 1))) = e := hE
  rw [hE'] at a2
  rw [hE]
  simp -failIfUnchanged (disch := first | omega | (simp <;> omega) | fail) only [go_sem, simprocAttr]
  refine wcall a1 ?_
  simp -failIfUnchanged (disch := first | omega | (simp <;> omega) | fail) only [go_sem, simprocAttr]
  refine wcall a2 ?_
  by_cases h0 : e = 0
  · subst h0
    obtain ⟨hc, _⟩ := pr_0 hE'
    have hv := vf_of hc
    have k2 := c66 b hv
    have hne := lrgL_ne b
    have hgm : ∀ x ∈ lrgL b, GM b b.ones.length x := fun x hx => (mem_lrg.1 hx).1
    have h0 : 0 < (lrgL b).length := List.length_pos_iff.2 hne
    have hsm := lrg_small hv
    generalize lrgL b = M at k2 hgm h0 hsm ⊢
    have c57a : ∀ i, i < M.length → Ctr Try.prog 57 [FK b, PS (M[i]?.getD default), .int who] (SP (owdI b (M[i]?.getD default) who)) := fun i hi => c57o b hv _ (hgm _ (mem_getD hi)) who
    have hat : ∀ i, i < M.length → (M.map PS)[i]?.getD .nul = PS (M[i]?.getD default) := fun i hi => by simp [hi]
    have c0 := c57a 0 h0
    have e0 := hat 0 h0
    simp -failIfUnchanged (disch := first | omega | (simp <;> omega) | fail) only [go_sem, simprocAttr]
    refine wcall k2 ?_
    simp -failIfUnchanged (disch := first | omega | (simp <;> omega) | fail) only [go_sem, simprocAttr, e0]
    refine wcall c0 ?_
    simp -failIfUnchanged (disch := first | omega | (simp <;> omega) | fail) only [go_sem, simprocAttr]
    refine wp_loop' Nat (fun i => ⟨[(1, .int who), (2, .ptr 2 0), (4, .ptr 4 0), (7, .sl 1 (M.map PS) .sh), (8, .ptr 8 0), (9, .int i)],
        [(8, ⟨[.int (rgK b who M i).lo, .int (rgK b who M i).hi], false⟩), (4, ⟨[.int 0, .int 0], false⟩), (2, ⟨FKc b, false⟩)], [], none⟩) (fun i => i ≤ M.length) (fun i => M.length - i) 0 (by simp) (by simp -failIfUnchanged (disch := first | omega | (simp <;> omega) | fail) only [go_sem, simprocAttr]; simp [rgK]) ?_
    intro i hi
    have hi : i ≤ M.length := hi
    simp -failIfUnchanged (disch := first | omega | (simp <;> omega) | fail) only [go_sem, simprocAttr]
    refine wcond_dec (fun h1 => ?_) (fun h1 => ?_)
    · have hil : i < M.length := by omega
      have c1 := c57a i hil
      have e1 := hat i hil
      have hst : rgK b who M (i + 1) = ⟨min (rgK b who M i).lo (owdI b (M[i]?.getD default) who).lo, max (rgK b who M i).hi (owdI b (M[i]?.getD default) who).hi⟩ := rfl
      simp -failIfUnchanged (disch := first | omega | (simp <;> omega) | fail) only [go_sem, simprocAttr, e1]
      refine wcall c1 ?_
      simp -failIfUnchanged (disch := first | omega | (simp <;> omega) | fail) only [go_sem, simprocAttr]
      refine ⟨i + 1, by dsimp only; omega, by dsimp only; omega, ?_⟩
      dsimp only
      rw [hst]
      simp -failIfUnchanged (disch := first | omega | (simp <;> omega) | fail) only [go_sem, simprocAttr]
      try simp
    · have e : i = M.length := by omega
      subst e
      simp -failIfUnchanged (disch := first | omega | (simp <;> omega) | fail) only [go_sem, simprocAttr]
      try simp
  · have hd : decide (¬ e = 0) = true := decide_eq_true h0
    simp -failIfUnchanged (disch := first | omega | (simp <;> omega) | fail) only [go_sem, simprocAttr, hd]
    simp [h0]

theorem c6 (b : FB) (who : Int) : Ctr Try.prog 6 [FK b, .int who] (.bool true) := by
  refine ctr_of_wp hmix Try.func6 m6 rfl ?_
  unfold v6
  simp -failIfUnchanged (disch := first | omega | (simp <;> omega) | fail) only [go_sem, simprocAttr]
  refine wcall (c14 b) ?_
  cases hf : farF b with
  | true =>
    simp -failIfUnchanged (disch := first | omega | (simp <;> omega) | fail) only [go_sem, simprocAttr]
    refine wcall c15 ?_
    simp -failIfUnchanged (disch := first | omega | (simp <;> omega) | fail) only [go_sem, simprocAttr]
  | false =>
    have hs := far_f hf
    have a1 := c28 b hs
    have a2 := c29 b hs
    have a3 := c25 b hs who
    have a4 := c30 b hs who
    have a5 := c31 b hs
    unfold fewR at a1 a2
    unfold owdR at a3 a4
    unfold matR at a5
    cases hc : chkB b with
    | false =>
      have he : errF b = 130 := by unfold errF; rw [hc]; rfl
      have hno : decide (¬ (130 : Int) = 0) = true := by decide
      rw [hc, he] at a1 a2 a5
      simp -failIfUnchanged (disch := first | omega | (simp <;> omega) | fail) only [go_sem, simprocAttr]
      refine wcall (c16 b hs) ?_
      simp -failIfUnchanged (disch := first | omega | (simp <;> omega) | fail) only [go_sem, simprocAttr]
      refine wcall a1 ?_
      simp -failIfUnchanged (disch := first | omega | (simp <;> omega) | fail) only [go_sem, simprocAttr]
      refine wcall a2 ?_
      simp -failIfUnchanged (disch := first | omega | (simp <;> omega) | fail) only [go_sem, simprocAttr]
      refine wcall a3 ?_
      simp -failIfUnchanged (disch := first | omega | (simp <;> omega) | fail) only [go_sem, simprocAttr]
      refine wcall a4 ?_
      simp -failIfUnchanged (disch := first | omega | (simp <;> omega) | fail) only [go_sem, simprocAttr]
      refine wcall a5 ?_
      simp -failIfUnchanged (disch := first | omega | (simp <;> omega) | fail) only [go_sem, simprocAttr, eq_self]
      refine wcall (c21 b hs) ?_
      simp -failIfUnchanged (disch := first | omega | (simp <;> omega) | fail) only [go_sem, simprocAttr, hno]
      refine wcall c15 ?_
      simp -failIfUnchanged (disch := first | omega | (simp <;> omega) | fail) only [go_sem, simprocAttr]
    | true =>
      have he : errF b = 0 := by unfold errF; rw [hc]; rfl
      have hno : decide (¬ (0 : Int) = 0) = false := by decide
      have hv := vf_of hc
      have hn1 := hv.n1
      have hn2 := hv.n2
      have hg : GM b b.ones.length (fstM b) := (mem_lrg.1 (fst_most b).1).1
      have hfl := fst_len hv
      have a6 := c32 b hv (fstM b) (by omega)
      rw [(mat_gm hv).2 hg] at a6
      have hfe : fewI b = (b.ones.length : Int) + b.others.length - (fstM b).length := rfl
      rw [hc, he] at a1 a2 a5
      simp only [if_true] at a1 a2 a5
      generalize fstM b = F at *
      generalize fewI b = W at *
      subst hfe
      simp -failIfUnchanged (disch := first | omega | (simp <;> omega) | fail) only [go_sem, simprocAttr]
      refine wcall (c16 b hs) ?_
      simp -failIfUnchanged (disch := first | omega | (simp <;> omega) | fail) only [go_sem, simprocAttr]
      refine wcall a1 ?_
      simp -failIfUnchanged (disch := first | omega | (simp <;> omega) | fail) only [go_sem, simprocAttr]
      refine wcall a2 ?_
      simp -failIfUnchanged (disch := first | omega | (simp <;> omega) | fail) only [go_sem, simprocAttr]
      refine wcall a3 ?_
      simp -failIfUnchanged (disch := first | omega | (simp <;> omega) | fail) only [go_sem, simprocAttr]
      refine wcall a4 ?_
      simp -failIfUnchanged (disch := first | omega | (simp <;> omega) | fail) only [go_sem, simprocAttr]
      refine wcall a5 ?_
      simp -failIfUnchanged (disch := first | omega | (simp <;> omega) | fail) only [go_sem, simprocAttr, eq_self]
      refine wcall (c21 b hs) ?_
      simp -failIfUnchanged (disch := first | omega | (simp <;> omega) | fail) only [go_sem, simprocAttr, hno]
      refine wcall a6 ?_
      have e9 : decide ((F.length : Int) = (b.ones.length : Int) + b.others.length - ((b.ones.length : Int) + b.others.length - F.length)) = true := decide_eq_true (by omega)
      simp -failIfUnchanged (disch := first | omega | (simp <;> omega) | fail) only [go_sem, simprocAttr, e9]
      refine wcall c15 ?_
      simp -failIfUnchanged (disch := first | omega | (simp <;> omega) | fail) only [go_sem, simprocAttr]

end Go.Proofs.Ytemnojaoickjfaa

/- Maps with pairs as keys; Must. -/
set_option linter.unusedSimpArgs false
set_option linter.unusedVariables false
set_option linter.unnecessarySimpa false
namespace Go.Proofs.Ytemnojaoickjfaa
open Go Go.V Go.WideShapes

theorem bid_nilp : AV.bid .nilp = [] := rfl
theorem strip_nilp {hp : HpL} : strip hp .nilp = .nilp := rfl
theorem isUnd_nilp : AV.isUnd .nilp = false := rfl
theorem bid_mpr {l : Nat} : AV.bid (.mpr l) = [] := rfl
theorem strip_mpr {hp : HpL} {l : Nat} : strip hp (.mpr l) = .mpr l := rfl
theorem isUnd_mpr {l : Nat} : AV.isUnd (.mpr l) = false := rfl
theorem inS_mpr {τ : AS} {l : Nat} : inScope τ (.mpr l) = True := rfl
attribute [go_sem] inS_mpr bid_nilp strip_nilp isUnd_nilp bid_mpr strip_mpr isUnd_mpr

end Go.Proofs.Ytemnojaoickjfaa

/- The document's Must and Alone; Twice; FinesMust. -/
set_option linter.unusedSimpArgs false
set_option linter.unusedVariables false
set_option linter.unnecessarySimpa false
namespace Go.Proofs.Ytemnojaoickjfaa
open Go Go.V

end Go.Proofs.Ytemnojaoickjfaa

/- Twice; FinesMust. -/
set_option linter.unusedSimpArgs false
set_option linter.unusedVariables false
set_option linter.unnecessarySimpa false
namespace Go.Proofs.Ytemnojaoickjfaa
open Go Go.V

/-- The pairs of a book's entries that could be one: row by row. -/
def twP (late : Int) (l : List En) (i k : Nat) : Bool := decide (i < k) && comB late (l[i]?.getD default) (l[k]?.getD default)
def twR (late : Int) (l : List En) (i m : Nat) : List Pa := ((List.range m).filter (twP late l i)).map fun k : Nat => (⟨(i : Int), (k : Int)⟩ : Pa)
def twK (late : Int) (l : List En) : Nat → List Pa
  | 0 => []
  | i + 1 => twK late l i ++ twR late l i l.length
def twcR (b : FB) (n : Int) : AV := .tup [PS (if bkE b n = 0 then twK b.late (bokL b n) (bokL b n).length else []), .int (bkE b n)]
theorem twR_succ (late : Int) (l : List En) (i m : Nat) : twR late l i (m + 1) = twR late l i m ++ (if twP late l i m then [⟨(i : Int), (m : Int)⟩] else []) := by
  unfold twR
  rw [List.range_succ, List.filter_append, List.map_append]
  congr 1
  by_cases h : twP late l i m <;> simp [h]
theorem twR_0 (late : Int) (l : List En) (i : Nat) : twR late l i (i + 1) = [] := by
  unfold twR
  have : (List.range (i + 1)).filter (twP late l i) = [] := by
    rw [List.filter_eq_nil_iff]
    intro k hk
    have := List.mem_range.1 hk
    have : decide (i < k) = false := decide_eq_false (by omega)
    simp [twP, this]
  rw [this]
  rfl
theorem twR_len (late : Int) (l : List En) (i m : Nat) : (twR late l i m).length ≤ m := by
  unfold twR
  rw [List.length_map]
  exact Nat.le_trans (List.length_filter_le _ _) (by simp)
theorem twK_len (late : Int) (l : List En) : ∀ i, (twK late l i).length ≤ i * l.length
  | 0 => by simp [twK]
  | i + 1 => by
    unfold twK
    rw [List.length_append, Nat.succ_mul]
    have := twK_len late l i
    have := twR_len late l i l.length
    omega
theorem bok_v {b : FB} (hv : VF b) {n : Int} {i : Nat} (h : i < (bokL b n).length) : VE b ((bokL b n)[i]?.getD default) := by
  have := mem_getD h
  unfold bokL at this ⊢
  by_cases e : n = 0
  · rw [if_pos e] at this ⊢; exact hv.e1 _ this
  · rw [if_neg e] at this ⊢; exact hv.e2 _ this
theorem bok_5 {b : FB} (hv : VF b) (n : Int) : (bokL b n).length ≤ 5 := by
  have := hv.n1
  have := hv.n2
  unfold bokL
  split <;> omega

set_option maxRecDepth 10000 in
theorem c60 (b : FB) (hs : SmF b) (n : Int) : Ctr Try.prog 60 [FK b, .int n] (twcR b n) := by
  refine ctr_of_wp hmix Try.func60 m60 rfl ?_
  unfold v60 twcR
  have a1 := c71 n 0 1
  have a2 := c70 b hs (within n 0 1)
  obtain ⟨e, hE⟩ : ∃ e, bkE b n = e := ⟨_, rfl⟩
  have hE' : askF b (within n 0 1) = e := hE
  rw [hE'] at a2
  rw [hE]
  simp -failIfUnchanged (disch := first | omega | (simp <;> omega) | fail) only [go_sem, simprocAttr]
  refine wcall a1 ?_
  simp -failIfUnchanged (disch := first | omega | (simp <;> omega) | fail) only [go_sem, simprocAttr]
  refine wcall a2 ?_
  by_cases h0 : e = 0
  · subst h0
    obtain ⟨hc, hw⟩ := pr_0 hE'
    have hv := vf_of hc
    have k3 := c73 b n
    have hl5 := bok_5 hv n
    have hve : ∀ i, i < (bokL b n).length → VE b ((bokL b n)[i]?.getD default) := fun i hi => bok_v hv hi
    generalize bokL b n = l at k3 hl5 hve ⊢
    have hpl := hv.pl
    simp -failIfUnchanged (disch := first | omega | (simp <;> omega) | fail) only [go_sem, simprocAttr]
    refine wcall k3 ?_
    simp -failIfUnchanged (disch := first | omega | (simp <;> omega) | fail) only [go_sem, simprocAttr]
    refine wp_loop' Nat (fun i => ⟨[(2, .ptr 2 0), (7, ES l), (9, .sl 2 ((twK b.late l i).map PA) (.own 9)), (28, ES l), (29, .int l.length), (30, .int i)], [(2, ⟨FKc b, false⟩)], [(9, (twK b.late l i).length)], none⟩) (fun i => i ≤ l.length) (fun i => l.length - i) 0 (by simp) (by simp -failIfUnchanged (disch := first | omega | (simp <;> omega) | fail) only [go_sem, simprocAttr]; simp [twK]) ?_
    intro i hi
    have hi : i ≤ l.length := hi
    have hkl := twK_len b.late l i
    have hkl2 : i * l.length ≤ 25 := by have := Nat.mul_le_mul (show i ≤ 5 by omega) hl5; omega
    simp -failIfUnchanged (disch := first | omega | (simp <;> omega) | fail) only [go_sem, simprocAttr]
    refine wcond_dec (fun h1 => ?_) (fun h1 => ?_)
    · have hil : i < l.length := by omega
      obtain ⟨x, hx⟩ : ∃ x, l[i]?.getD default = x := ⟨_, rfl⟩
      have hvx := hve i hil
      rw [hx] at hvx
      have hks : twK b.late l (i + 1) = twK b.late l i ++ twR b.late l i l.length := rfl
      simp -failIfUnchanged (disch := first | omega | (simp <;> omega) | fail) only [go_sem, simprocAttr, hx]
      refine wp_loop' Nat (fun k => ⟨[(2, .ptr 2 0), (7, ES l), (9, .sl 2 ((twK b.late l i ++ twR b.late l i k).map PA) (.own 9)), (10, .int i), (11, .ptr 11 0), (12, .int k), (28, ES l), (29, .int l.length), (30, .int i)],
        [(11, ⟨[.int x.day, .int x.who, SS x.cord], false⟩), (2, ⟨FKc b, false⟩)], [(9, (twK b.late l i ++ twR b.late l i k).length)], none⟩) (fun k => i < k ∧ k ≤ l.length) (fun k => l.length - k) (i + 1) ⟨by omega, by omega⟩ (by rw [twR_0]; simp -failIfUnchanged (disch := first | omega | (simp <;> omega) | fail) only [go_sem, simprocAttr]; simp) ?_
      rintro k ⟨hik, hk⟩
      have hrl := twR_len b.late l i k
      have hal : (twK b.late l i ++ twR b.late l i k).length ≤ 100 := by rw [List.length_append]; omega
      have hrs3 : twK b.late l i ++ twR b.late l i (k + 1) = (twK b.late l i ++ twR b.late l i k) ++ (if twP b.late l i k then [⟨(i : Int), (k : Int)⟩] else []) := by rw [twR_succ, List.append_assoc]
      have hks2 : k = l.length → twK b.late l (i + 1) = twK b.late l i ++ twR b.late l i k := fun e => by subst e; rfl
      generalize twK b.late l i ++ twR b.late l i k = A at hal hrs3 hks2 ⊢
      simp -failIfUnchanged (disch := first | omega | (simp <;> omega) | fail) only [go_sem, simprocAttr]
      refine wcond_dec (fun h2 => ?_) (fun h2 => ?_)
      · have hkl : k < l.length := by omega
        obtain ⟨y, hy⟩ : ∃ y, l[k]?.getD default = y := ⟨_, rfl⟩
        have hvy := hve k hkl
        rw [hy] at hvy
        have hn2 := hvy.c.n
        have k79 := c79 b.late x y (by rw [both_len hvx.c hvy.c]; exact Nat.le_refl _) (by omega)
        have htp : twP b.late l i k = comB b.late x y := by
          unfold twP
          rw [hx, hy, decide_eq_true hik, Bool.true_and]
        have hrs2 := hrs3
        rw [htp] at hrs2
        simp -failIfUnchanged (disch := first | omega | (simp <;> omega) | fail) only [go_sem, simprocAttr, hy]
        refine wcall k79 ?_
        simp -failIfUnchanged (disch := first | omega | (simp <;> omega) | fail) only [go_sem, simprocAttr]
        cases hcm : comB b.late x y with
        | true =>
          rw [hcm] at hrs2
          simp -failIfUnchanged (disch := first | omega | (simp <;> omega) | fail) only [go_sem, simprocAttr]
          refine ⟨k + 1, ⟨by omega, by omega⟩, by dsimp only; omega, ?_⟩
          dsimp only
          have hln := congrArg List.length hrs2
          simp only [List.length_append, if_true, Bool.false_eq_true, if_false, List.length_cons, List.length_nil] at hln
          rw [hrs2]
          simp -failIfUnchanged (disch := first | omega | (simp <;> omega) | fail) only [go_sem, simprocAttr]
          try simp
          try omega
        | false =>
          rw [hcm] at hrs2
          simp -failIfUnchanged (disch := first | omega | (simp <;> omega) | fail) only [go_sem, simprocAttr]
          refine ⟨k + 1, ⟨by omega, by omega⟩, by dsimp only; omega, ?_⟩
          dsimp only
          have hln := congrArg List.length hrs2
          simp only [List.length_append, if_true, Bool.false_eq_true, if_false, List.length_cons, List.length_nil] at hln
          rw [hrs2]
          simp -failIfUnchanged (disch := first | omega | (simp <;> omega) | fail) only [go_sem, simprocAttr]
          try simp
          try omega
      · have ek : k = l.length := by omega
        simp -failIfUnchanged (disch := first | omega | (simp <;> omega) | fail) only [go_sem, simprocAttr]
        refine ⟨i + 1, by dsimp only; omega, by dsimp only; omega, ?_⟩
        dsimp only
        rw [hks2 ek]
        simp -failIfUnchanged (disch := first | omega | (simp <;> omega) | fail) only [go_sem, simprocAttr]
        try simp
    · have ei : i = l.length := by omega
      subst ei
      simp -failIfUnchanged (disch := first | omega | (simp <;> omega) | fail) only [go_sem, simprocAttr]
      try simp
  · have hd : decide (¬ e = 0) = true := decide_eq_true h0
    simp -failIfUnchanged (disch := first | omega | (simp <;> omega) | fail) only [go_sem, simprocAttr, hd]
    simp [h0]

end Go.Proofs.Ytemnojaoickjfaa

/- Matchings: how great they can be; in whatever order. -/
set_option linter.unusedSimpArgs false
set_option linter.unusedVariables false
set_option linter.unnecessarySimpa false
namespace Go.Proofs.Ytemnojaoickjfaa
open Go Go.V

theorem fst_gm (b : FB) : GM b b.ones.length (fstM b) := (mem_lrg.1 (fst_most b).1).1
theorem most_le {b : FB} {t : List Pa} (h : GM b b.ones.length t) : t.length ≤ (fstM b).length := (mem_lrg.1 (fst_most b).1).2 t h
theorem filter_ne_len (a : Int) : ∀ (l : List Int), l.Pairwise (fun x y => x ≠ y) → l.length ≤ (l.filter fun x => decide (x ≠ a)).length + 1
  | [], _ => by simp
  | x :: r, h => by
    have h1 := List.pairwise_cons.1 h
    by_cases e : x = a
    · subst e
      have : (r.filter fun y => decide (y ≠ x)) = r := List.filter_eq_self.2 fun y hy => decide_eq_true (fun e => h1.1 y hy e.symm)
      rw [List.filter_cons, this]
      simp
    · have ih := filter_ne_len a r h1.2
      rw [List.filter_cons, if_pos (decide_eq_true e)]
      simp only [List.length_cons]
      omega
theorem nodup_len : ∀ (n : Nat) (l : List Int), l.Pairwise (fun x y => x ≠ y) → (∀ x ∈ l, 0 ≤ x ∧ x < (n : Int)) → l.length ≤ n
  | 0, l, _, h => by
    cases l with
    | nil => simp
    | cons x r => have := h x (by simp); omega
  | n + 1, l, hd, h => by
    have h1 := filter_ne_len n l hd
    have h2 := nodup_len n (l.filter fun x => decide (x ≠ (n : Int))) (hd.filter _) fun x hx => by
      have hx := List.mem_filter.1 hx
      have h3 := h x hx.1
      have h4 := of_decide_eq_true hx.2
      omega
    omega

/-- A matching in whatever order. -/
structure UM (b : FB) (t : List Pa) : Prop where
  p : ∀ p ∈ t, (0 ≤ p.one ∧ p.one < (b.ones.length : Int)) ∧ (0 ≤ p.other ∧ p.other < (b.others.length : Int)) ∧ comB b.late (one b p.one.toNat) (oth b p.other.toNat) = true
  o : t.Pairwise fun p q => p.one ≠ q.one
  d : t.Pairwise fun p q => p.other ≠ q.other
theorem gm_um {b : FB} {t : List Pa} (h : GM b b.ones.length t) : UM b t := ⟨h.p, h.o.imp fun h => by omega, h.d⟩
theorem um_others {b : FB} {t : List Pa} (h : UM b t) : t.length ≤ b.others.length := by
  have := nodup_len b.others.length (t.map fun p => p.other) (h.d.map _ fun _ _ h => h) fun x hx => by
    obtain ⟨p, hp, rfl⟩ := List.mem_map.1 hx
    exact (h.p p hp).2.1
  simpa using this
theorem fst_others (b : FB) : (fstM b).length ≤ b.others.length := um_others (gm_um (fst_gm b))
theorem fst_ones (b : FB) : (fstM b).length ≤ b.ones.length := gm_len (fst_gm b)

/-- Fewest as the laws ask for it. -/
theorem c23 (b : FB) (hs : SmF b) (hc : chkB b = true) : Ctr Try.prog 23 [FK b] (.tup [.int (fewI b), .bool true]) := by
  refine ctr_of_wp hmix Try.func23 m23 rfl ?_
  unfold v23
  have k := c28 b hs
  have he : errF b = 0 := by unfold errF; rw [hc]; rfl
  unfold fewR at k
  rw [he, if_pos hc] at k
  have h1 := fst_others b
  have h2 := fst_ones b
  have hv := vf_of hc
  have hn1 := hv.n1
  have hn2 := hv.n2
  have hf : fewI b = (b.ones.length : Int) + b.others.length - (fstM b).length := rfl
  generalize fewI b = F at *
  have e1 : decide (max (b.ones.length : Int) b.others.length ≤ F) = true := decide_eq_true (by omega)
  have e2 : decide (F ≤ (b.ones.length : Int) + b.others.length) = true := decide_eq_true (by omega)
  simp -failIfUnchanged (disch := first | omega | (simp <;> omega) | fail) only [go_sem, simprocAttr]
  refine wcall k ?_
  simp -failIfUnchanged (disch := first | omega | (simp <;> omega) | fail) only [go_sem, simprocAttr, eq_self, e1, e2]

theorem rdy_of {b : FB} (h : rdyF b = true) : SmF b ∧ chkB b = true ∧ VF b := by
  unfold rdyF at h
  rw [Bool.and_eq_true, Bool.not_eq_true'] at h
  exact ⟨smf_of h.1, h.2, vf_of h.2⟩

/-! What the answers say of each largest matching. -/
end Go.Proofs.Ytemnojaoickjfaa

/- FinesLater. -/
set_option linter.unusedSimpArgs false
set_option linter.unusedVariables false
set_option linter.unnecessarySimpa false
namespace Go.Proofs.Ytemnojaoickjfaa
open Go Go.V

theorem com_late {b : FB} {l : Int} (hl : b.late ≤ l) {x y : En} (h : comB b.late x y = true) : comB (lat b l).late x y = true := by
  unfold comB at h ⊢
  simp only [Bool.and_eq_true, decide_eq_true_eq] at h ⊢
  exact ⟨h.1, Int.le_trans h.2.1 hl, h.2.2⟩
theorem gm_late {b : FB} {l : Int} (hl : b.late ≤ l) {t : List Pa} (h : GM b b.ones.length t) : GM (lat b l) (lat b l).ones.length t :=
  ⟨fun p hp => ⟨(h.p p hp).1, (h.p p hp).2.1, com_late hl (h.p p hp).2.2⟩, h.o, h.d⟩
theorem few_late {b : FB} {l : Int} (hl : b.late ≤ l) : fewI (lat b l) ≤ fewI b := by
  have := most_le (gm_late hl (fst_gm b))
  unfold fewI
  show (b.ones.length : Int) + b.others.length - _ ≤ _
  omega
theorem few_lat2 {b : FB} {l m : Int} (hl : l ≤ m) : fewI (lat b m) ≤ fewI (lat b l) := few_late (b := lat b l) hl
theorem fstN_spec (p : Nat → Bool) (n : Nat) : ∃ k, fstN p n = k ∧ k ≤ n ∧ (∀ i, i < k → p i = false) ∧ (k = n ∨ p k = true) := by
  have key : ∀ m, (∃ k, k ≤ m ∧ (∀ i, i < k → p i = false) ∧ (k = m ∨ p k = true)) := by
    intro m
    induction m with
    | zero => exact ⟨0, Nat.le_refl _, fun i hi => by omega, .inl rfl⟩
    | succ m ih =>
      obtain ⟨k, h1, h2, h3⟩ := ih
      by_cases hk : p k = true
      · exact ⟨k, by omega, h2, .inr hk⟩
      · have e : k = m := h3.resolve_right hk
        subst e
        exact ⟨k + 1, Nat.le_refl _, fun i hi => by
          by_cases e : i = k
          · subst e; simpa using hk
          · exact h2 i (by omega), .inl rfl⟩
  obtain ⟨k, h1, h2, h3⟩ := key n
  exact ⟨k, fstN_eq h1 h2 h3, h1, h2, h3⟩
theorem lt_spec (b : FB) : ltN b ≤ 30 ∧ fewI (lat b (ltN b : Nat)) = fewI (lat b 30) ∧ ∀ i : Nat, i < ltN b → fewI (lat b 30) < fewI (lat b i) := by
  obtain ⟨k, h1, h2, h3, h4⟩ := fstN_spec (ltP b) 30
  have h1' : ltN b = k := h1
  rw [h1']
  refine ⟨h2, ?_, fun i hi => ?_⟩
  · apply Int.le_antisymm
    · rcases h4 with rfl | h4
      · exact Int.le_refl _
      · exact of_decide_eq_true h4
    · exact few_lat2 (by omega)
  · have := of_decide_eq_false (h3 i hi)
    omega
theorem chk_lat {b : FB} (hc : chkB b = true) {l : Int} (h : 0 ≤ l ∧ l ≤ 30) : chkB (lat b l) = true := by
  unfold chkB at hc ⊢
  simp only [Bool.and_eq_true] at hc ⊢
  exact ⟨hc.1, hc.2.1, by unfold within; exact decide_eq_true h, hc.2.2.2⟩

set_option maxRecDepth 10000 in
theorem c7 (b : FB) (l : Int) (p : Pa) : Ctr Try.prog 7 [FK b, .int l, PA p] (.bool true) := by
  refine ctr_of_wp hmix Try.func7 m7 rfl ?_
  unfold v7
  simp -failIfUnchanged (disch := first | omega | (simp <;> omega) | fail) only [go_sem, simprocAttr]
  refine wcall (c22 b) ?_
  cases hr : rdyF b with
  | false =>
    simp -failIfUnchanged (disch := first | omega | (simp <;> omega) | fail) only [go_sem, simprocAttr]
    refine wcall c15 ?_
    simp -failIfUnchanged (disch := first | omega | (simp <;> omega) | fail) only [go_sem, simprocAttr]
  | true =>
    obtain ⟨hs, hc, hv⟩ := rdy_of hr
    simp -failIfUnchanged (disch := first | omega | (simp <;> omega) | fail) only [go_sem, simprocAttr]
    refine wcall (c33 l b.late 30) ?_
    cases hw : within l b.late 30 with
    | false =>
      simp -failIfUnchanged (disch := first | omega | (simp <;> omega) | fail) only [go_sem, simprocAttr]
      refine wcall c15 ?_
      simp -failIfUnchanged (disch := first | omega | (simp <;> omega) | fail) only [go_sem, simprocAttr]
    | true =>
      have hw' : b.late ≤ l ∧ l ≤ 30 := by simpa [within] using hw
      have hla := hv.la
      obtain ⟨g1, g2, g3⟩ := lt_spec b
      have k23 := c23 b hs hc
      have k24 := c23 (lat b l) (sm_lat hs l) (chk_lat hc (by omega))
      have k25 := c23 (lat b 30) (sm_lat hs 30) (chk_lat hc (by omega))
      have k26 := c23 (lat b (ltN b : Nat)) (sm_lat hs _) (chk_lat hc (by omega))
      have k19 := c19 b hs
      have he : errF b = 0 := by unfold errF; rw [hc]; rfl
      unfold ltR at k19
      rw [he, if_pos hc] at k19
      have k34 := c34 b hs l
      have k35 := c34 b hs 30
      have k36 := c34 b hs (ltN b : Nat)
      have hle := few_late hw'.1
      have a1 := c37 b hs p.one p.other
      have a2 := c37 (lat b l) (sm_lat hs l) p.one p.other
      have a3 := c35 b p.one
      have a4 := c36 b p.other
      unfold samR at a1 a2
      have hpe : prE (lat b l) p.one p.other = askF (lat b l) (oneI b p.one && othI b p.other) := rfl
      have hpe1 : prE b p.one p.other = askF b (oneI b p.one && othI b p.other) := rfl
      have hk3 : Ctr Try.prog 33 [.int (ltN b : Nat), .int 0, .int 30] (.bool true) := by
        have := c33 (ltN b : Nat) 0 30
        rwa [show within (ltN b : Nat) 0 30 = true by unfold within; exact decide_eq_true (by omega)] at this
      have hbef : ∀ q : Nat, ltN b = q + 1 → Ctr Try.prog 34 [FK b, .int (q : Nat)] (FK (lat b (q : Nat))) ∧ Ctr Try.prog 23 [FK (lat b (q : Nat))] (.tup [.int (fewI (lat b (q : Nat))), .bool true]) ∧ fewI (lat b 30) < fewI (lat b (q : Nat)) := fun q hq =>
        ⟨c34 b hs q, c23 (lat b (q : Nat)) (sm_lat hs _) (chk_lat hc (by omega)), g3 q (by omega)⟩
      rw [g2] at k26
      generalize ltN b = K at *
      have d0 : decide (¬ (0 : Int) = 0) = false := rfl
      have d1 : decide (fewI b < fewI (lat b l)) = false := decide_eq_false (by omega)
      have d2 : decide (¬ fewI (lat b 30) = fewI (lat b 30)) = false := decide_eq_false (by simp)
      have hone : oneI b p.one = within p.one 0 (w64 ((b.ones.length : Int) - 1)) := rfl
      have hoth : othI b p.other = within p.other 0 (w64 ((b.others.length : Int) - 1)) := rfl
      obtain ⟨u, hu⟩ : ∃ u, within p.one 0 (w64 ((b.ones.length : Int) - 1)) = u := ⟨_, rfl⟩
      obtain ⟨v, hvv⟩ : ∃ v, within p.other 0 (w64 ((b.others.length : Int) - 1)) = v := ⟨_, rfl⟩
      rw [hone, hoth, hu, hvv] at hpe hpe1
      rw [hu] at a3
      rw [hvv] at a4
      unfold FK at a2 k24 k25 k26 k34 k35 k36
      simp -failIfUnchanged (disch := first | omega | (simp <;> omega) | fail) only [go_sem, simprocAttr]
      refine wcall k34 ?_
      simp -failIfUnchanged (disch := first | omega | (simp <;> omega) | fail) only [go_sem, simprocAttr]
      refine wcall k23 ?_
      simp -failIfUnchanged (disch := first | omega | (simp <;> omega) | fail) only [go_sem, simprocAttr]
      refine wcall k24 ?_
      simp -failIfUnchanged (disch := first | omega | (simp <;> omega) | fail) only [go_sem, simprocAttr]
      refine wcall k19 ?_
      simp -failIfUnchanged (disch := first | omega | (simp <;> omega) | fail) only [go_sem, simprocAttr, d0, d1]
      refine wcall hk3 ?_
      simp -failIfUnchanged (disch := first | omega | (simp <;> omega) | fail) only [go_sem, simprocAttr]
      refine wcall k35 ?_
      simp -failIfUnchanged (disch := first | omega | (simp <;> omega) | fail) only [go_sem, simprocAttr]
      refine wcall k25 ?_
      simp -failIfUnchanged (disch := first | omega | (simp <;> omega) | fail) only [go_sem, simprocAttr]
      refine wcall k36 ?_
      simp -failIfUnchanged (disch := first | omega | (simp <;> omega) | fail) only [go_sem, simprocAttr]
      refine wcall k26 ?_
      simp -failIfUnchanged (disch := first | omega | (simp <;> omega) | fail) only [go_sem, simprocAttr, d2]
      refine tailed (T := ?T) (fun tail => ?mm) ?tt
      case mm =>
        refine wcond_dec (fun h0 => ?_) (fun h0 => ?_)
        · obtain ⟨q, rfl⟩ : ∃ q, K = q + 1 := ⟨K - 1, by omega⟩
          obtain ⟨b1, b2, b3⟩ := hbef q rfl
          have e1 : (((q + 1 : Nat) : Int) - 1) = (q : Nat) := by omega
          have d3 : decide (fewI (lat b (q : Nat)) ≤ fewI (lat b 30)) = false := decide_eq_false (by omega)
          unfold FK at b1 b2
          simp -failIfUnchanged (disch := first | omega | (simp <;> omega) | fail) only [go_sem, simprocAttr, e1]
          refine wcall b1 ?_
          simp -failIfUnchanged (disch := first | omega | (simp <;> omega) | fail) only [go_sem, simprocAttr]
          refine wcall b2 ?_
          simp -failIfUnchanged (disch := first | omega | (simp <;> omega) | fail) only [go_sem, simprocAttr, d3]
          exact tail.out
        · simp -failIfUnchanged (disch := first | omega | (simp <;> omega) | fail) only [go_sem, simprocAttr]
          exact tail.out
      case tt =>
        refine wcall a3 ?_
        cases u with
        | false =>
          simp -failIfUnchanged (disch := first | omega | (simp <;> omega) | fail) only [go_sem, simprocAttr]
          refine wcall c15 ?_
          simp -failIfUnchanged (disch := first | omega | (simp <;> omega) | fail) only [go_sem, simprocAttr]
        | true =>
          simp -failIfUnchanged (disch := first | omega | (simp <;> omega) | fail) only [go_sem, simprocAttr]
          refine wcall a4 ?_
          cases v with
          | false =>
            simp -failIfUnchanged (disch := first | omega | (simp <;> omega) | fail) only [go_sem, simprocAttr]
            refine wcall c15 ?_
            simp -failIfUnchanged (disch := first | omega | (simp <;> omega) | fail) only [go_sem, simprocAttr]
          | true =>
            have e1 : prE b p.one p.other = 0 := by rw [hpe1]; exact ask_ok hc rfl
            have e2 : prE (lat b l) p.one p.other = 0 := by rw [hpe]; exact ask_ok (chk_lat hc (by omega)) rfl
            rw [e1, if_pos rfl] at a1
            rw [e2, if_pos rfl] at a2
            have h1 : comB b.late (one b p.one.toNat) (oth b p.other.toNat) = true → comB (lat b l).late (one (lat b l) p.one.toNat) (oth (lat b l) p.other.toNat) = true := com_late hw'.1
            generalize comB b.late (one b p.one.toNat) (oth b p.other.toNat) = X at *
            generalize comB (lat b l).late (one (lat b l) p.one.toNat) (oth (lat b l) p.other.toNat) = Y at *
            simp -failIfUnchanged (disch := first | omega | (simp <;> omega) | fail) only [go_sem, simprocAttr]
            refine wcall a1 ?_
            simp -failIfUnchanged (disch := first | omega | (simp <;> omega) | fail) only [go_sem, simprocAttr]
            refine wcall a2 ?_
            simp -failIfUnchanged (disch := first | omega | (simp <;> omega) | fail) only [go_sem, simprocAttr, eq_self]
            cases X with
            | false =>
              simp -failIfUnchanged (disch := first | omega | (simp <;> omega) | fail) only [go_sem, simprocAttr]
              refine wcall c15 ?_
              simp -failIfUnchanged (disch := first | omega | (simp <;> omega) | fail) only [go_sem, simprocAttr]
            | true =>
              rw [h1 rfl]
              simp -failIfUnchanged (disch := first | omega | (simp <;> omega) | fail) only [go_sem, simprocAttr]
              refine wcall c15 ?_
              simp -failIfUnchanged (disch := first | omega | (simp <;> omega) | fail) only [go_sem, simprocAttr]

end Go.Proofs.Ytemnojaoickjfaa
