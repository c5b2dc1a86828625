/- Merged by program: T34, T35, T36, T37, T38, T39, T40, T42, T43, T49, T50, T51. -/
import Derived.Test.YtemnojaoickjfaaM5
import Derived.DeepKeys4
import Derived.SizedLaws
/- What a person owes, as the document has it. -/
set_option linter.unusedSimpArgs false
set_option linter.unusedVariables false
set_option linter.unnecessarySimpa false
namespace Go.Proofs.Ytemnojaoickjfaa
open Go Go.V

/-- The sums over the pairs, the entries of Ones, those of Others. -/
def dwP (b : FB) (t : List Pa) (who : Int) : Nat → Sp
  | 0 => ⟨0, 0⟩
  | k + 1 => if (one b (t[k]?.getD default).one.toNat).who = who then addS (dwP b t who k) (pcI b (one b (t[k]?.getD default).one.toNat) (oth b (t[k]?.getD default).other.toNat)) else dwP b t who k
def dw1 (b : FB) (t : List Pa) (who : Int) (s : Sp) : Nat → Sp
  | 0 => s
  | i + 1 => if (one b i).who = who ∧ inO t i = false then addS (dw1 b t who s i) (endsL b.base (one b i).cord) else dw1 b t who s i
def dw2 (b : FB) (t : List Pa) (who : Int) (s : Sp) : Nat → Sp
  | 0 => s
  | j + 1 => if (oth b j).who = who ∧ inT t j = false then addS (dw2 b t who s j) (endsL b.base (oth b j).cord) else dw2 b t who s j
def dwI (b : FB) (t : List Pa) (who : Int) : Sp := dw2 b t who (dw1 b t who (dwP b t who t.length) b.ones.length) b.others.length

theorem dwP_bd {b : FB} (hv : VF b) {t : List Pa} (hg : GM b b.ones.length t) (who : Int) : ∀ k : Nat, k ≤ t.length → SpB (dwP b t who k) k
  | 0, _ => ⟨Int.le_refl _, Int.le_refl _, by simp [dwP]⟩
  | k + 1, hk => by
    have ih := dwP_bd hv hg who k (by omega)
    obtain ⟨i, j, e, hi, hj, hc⟩ := gm_at hg (k := k) (by omega)
    unfold dwP
    rw [e]
    simp only [Int.toNat_natCast]
    split
    · exact spB_le (spB_add ih (ends_bd hv (com_v2 hv hi hj hc))) (by omega)
    · exact spB_le ih (by omega)
theorem dw1_bd {b : FB} (hv : VF b) (t : List Pa) (who : Int) {s : Sp} {n : Int} (hs : SpB s n) : ∀ k : Nat, k ≤ b.ones.length → SpB (dw1 b t who s k) (n + k)
  | 0, _ => by simpa [dw1] using hs
  | k + 1, hk => by
    have ih := dw1_bd hv t who hs k (by omega)
    unfold dw1
    split
    · exact spB_le (spB_add ih (ends_bd hv (one_v hv (by omega)).c)) (by omega)
    · exact spB_le ih (by omega)
theorem dw2_bd {b : FB} (hv : VF b) (t : List Pa) (who : Int) {s : Sp} {n : Int} (hs : SpB s n) : ∀ k : Nat, k ≤ b.others.length → SpB (dw2 b t who s k) (n + k)
  | 0, _ => by simpa [dw2] using hs
  | k + 1, hk => by
    have ih := dw2_bd hv t who hs k (by omega)
    unfold dw2
    split
    · exact spB_le (spB_add ih (ends_bd hv (oth_v hv (by omega)).c)) (by omega)
    · exact spB_le ih (by omega)
theorem c91s (a c : Sp) {n : Int} (ha : SpB a n) (hn : n ≤ 100) (hc : 0 ≤ c.lo ∧ c.lo ≤ c.hi ∧ c.hi < 10000) : Ctr Try.prog 91 [SP a, SP c] (SP (addS a c)) := by
  have k := c91 a c
  have := ha.l
  have := ha.m
  have := ha.h
  rw [w64_id (by omega), w64_id (by omega)] at k
  exact k

set_option maxRecDepth 10000 in
theorem c57 (b : FB) (hv : VF b) (t : List Pa) (hg : GM b b.ones.length t) (who : Int) : Ctr Try.prog 57 [FK b, PS t, .int who] (SP (dwI b t who)) := by
  refine ctr_of_wp hmix Try.func57 m57 rfl ?_
  unfold v57 dwI
  have htl := gm_len hg
  have hn1 := hv.n1
  have hn2 := hv.n2
  have hbp := bp_of hv
  have hpl := hv.pl
  simp -failIfUnchanged (disch := first | omega | (simp <;> omega) | fail) only [go_sem, simprocAttr]
  refine wp_loop' Nat (fun k => ⟨[(1, PS t), (2, .int who), (3, .ptr 3 0), (6, .ptr 6 0), (7, .ptr 7 0), (8, .int k)], [(7, ⟨[.int (dwP b t who k).lo, .int (dwP b t who k).hi], false⟩), (6, ⟨[.int 0, .int 0], false⟩), (3, ⟨FKc b, false⟩)], [], none⟩) (fun k => k ≤ t.length) (fun k => t.length - k) 0 (by simp) (by simp -failIfUnchanged (disch := first | omega | (simp <;> omega) | fail) only [go_sem, simprocAttr]; simp [dwP]) ?_
  intro k hk
  have hk : k ≤ t.length := hk
  simp -failIfUnchanged (disch := first | omega | (simp <;> omega) | fail) only [go_sem, simprocAttr]
  refine wcond_dec (fun h1 => ?_) (fun h1 => ?_)
  · have hkl : k < t.length := by omega
    obtain ⟨p, q, e, hp, hq, hc⟩ := gm_at hg hkl
    have hst : dwP b t who (k + 1) = if (one b p).who = who then addS (dwP b t who k) (pcI b (one b p) (oth b q)) else dwP b t who k := by
      simp only [dwP, e, Int.toNat_natCast]
    have hbd := dwP_bd hv hg who k (by omega)
    have hvc := com_v2 hv hp hq hc
    have hfb : fitB (comL (one b p).cord (oth b q).cord) = true := by
      unfold comB at hc
      simp only [Bool.and_eq_true] at hc
      exact hc.2.2
    have x2 := (oth_v hv hq).c
    have hx2 := x2.n
    have k87 := c87 b hbp (one b p) (oth b q) (one_v hv hp).c x2 (by omega) hfb
    have k91 := c91s (dwP b t who k) (pcI b (one b p) (oth b q)) hbd (by omega) (ends_bd hv hvc)
    have g1 : b.ones[p]?.getD default = one b p := rfl
    have g2 : b.others[q]?.getD default = oth b q := rfl
    generalize dwP b t who k = S at *
    simp -failIfUnchanged (disch := first | omega | (simp <;> omega) | fail) only [go_sem, simprocAttr, e, g1]
    refine wcond_dec (fun h2 => ?_) (fun h2 => ?_)
    · rw [if_pos h2] at hst
      simp -failIfUnchanged (disch := first | omega | (simp <;> omega) | fail) only [go_sem, simprocAttr, e, g2]
      refine wcall k87 ?_
      simp -failIfUnchanged (disch := first | omega | (simp <;> omega) | fail) only [go_sem, simprocAttr]
      refine wcall k91 ?_
      simp -failIfUnchanged (disch := first | omega | (simp <;> omega) | fail) only [go_sem, simprocAttr]
      refine ⟨k + 1, by dsimp only; omega, by dsimp only; omega, ?_⟩
      dsimp only
      rw [hst]
      simp -failIfUnchanged (disch := first | omega | (simp <;> omega) | fail) only [go_sem, simprocAttr]
      try simp
    · rw [if_neg h2] at hst
      simp -failIfUnchanged (disch := first | omega | (simp <;> omega) | fail) only [go_sem, simprocAttr]
      refine ⟨k + 1, by dsimp only; omega, by dsimp only; omega, ?_⟩
      dsimp only
      rw [hst]
      simp -failIfUnchanged (disch := first | omega | (simp <;> omega) | fail) only [go_sem, simprocAttr]
      try simp
  · have ek : k = t.length := by omega
    subst ek
    have hbd0 := dwP_bd hv hg who t.length (Nat.le_refl _)
    generalize dwP b t who t.length = S0 at *
    simp -failIfUnchanged (disch := first | omega | (simp <;> omega) | fail) only [go_sem, simprocAttr]
    refine wp_loop' Nat (fun i => ⟨[(1, PS t), (2, .int who), (3, .ptr 3 0), (6, .ptr 6 0), (7, .ptr 7 0), (10, .int i)], [(7, ⟨[.int (dw1 b t who S0 i).lo, .int (dw1 b t who S0 i).hi], false⟩), (6, ⟨[.int 0, .int 0], false⟩), (3, ⟨FKc b, false⟩)], [], none⟩) (fun i => i ≤ b.ones.length) (fun i => b.ones.length - i) 0 (by simp) (by simp -failIfUnchanged (disch := first | omega | (simp <;> omega) | fail) only [go_sem, simprocAttr]; simp [dw1]) ?_
    intro i hi
    have hi : i ≤ b.ones.length := hi
    simp -failIfUnchanged (disch := first | omega | (simp <;> omega) | fail) only [go_sem, simprocAttr]
    refine wcond_dec (fun h2 => ?_) (fun h2 => ?_)
    · have hil : i < b.ones.length := by omega
      have hve := one_v hv hil
      have hst : dw1 b t who S0 (i + 1) = if (one b i).who = who ∧ inO t i = false then addS (dw1 b t who S0 i) (endsL b.base (one b i).cord) else dw1 b t who S0 i := rfl
      have hbd := dw1_bd hv t who hbd0 i (by omega)
      have k44 := c44 t i (by omega)
      have k92 := c92 b hbp _ (cd_iff.2 hve.c)
      have k91 := c91s (dw1 b t who S0 i) (endsL b.base (one b i).cord) hbd (by omega) (ends_bd hv hve.c)
      have g1 : b.ones[i]?.getD default = one b i := rfl
      obtain ⟨u, hu⟩ : ∃ u, (t.any fun p => decide (p.one = (i : Int))) = u := ⟨_, rfl⟩
      have hu2 : inO t i = u := hu
      rw [hu2] at hst
      rw [hu] at k44
      generalize dw1 b t who S0 i = S at *
      obtain ⟨w, hw⟩ : ∃ w, decide ((one b i).who = who) = w := ⟨_, rfl⟩
      simp -failIfUnchanged (disch := first | omega | (simp <;> omega) | fail) only [go_sem, simprocAttr, g1, hw]
      cases w with
      | false =>
        have hw := of_decide_eq_false hw
        rw [if_neg (fun x => hw x.1)] at hst
        simp -failIfUnchanged (disch := first | omega | (simp <;> omega) | fail) only [go_sem, simprocAttr]
        refine ⟨i + 1, by dsimp only; omega, by dsimp only; omega, ?_⟩
        dsimp only
        rw [hst]
        simp -failIfUnchanged (disch := first | omega | (simp <;> omega) | fail) only [go_sem, simprocAttr]
        try simp
      | true =>
        have hw := of_decide_eq_true hw
        simp -failIfUnchanged (disch := first | omega | (simp <;> omega) | fail) only [go_sem, simprocAttr]
        refine wcall k44 ?_
        cases u with
        | true =>
          rw [if_neg (fun x => by cases x.2)] at hst
          simp -failIfUnchanged (disch := first | omega | (simp <;> omega) | fail) only [go_sem, simprocAttr]
          refine ⟨i + 1, by dsimp only; omega, by dsimp only; omega, ?_⟩
          dsimp only
          rw [hst]
          simp -failIfUnchanged (disch := first | omega | (simp <;> omega) | fail) only [go_sem, simprocAttr]
          try simp
        | false =>
          rw [if_pos ⟨hw, rfl⟩] at hst
          simp -failIfUnchanged (disch := first | omega | (simp <;> omega) | fail) only [go_sem, simprocAttr, g1]
          refine wcall k92 ?_
          simp -failIfUnchanged (disch := first | omega | (simp <;> omega) | fail) only [go_sem, simprocAttr]
          refine wcall k91 ?_
          simp -failIfUnchanged (disch := first | omega | (simp <;> omega) | fail) only [go_sem, simprocAttr]
          refine ⟨i + 1, by dsimp only; omega, by dsimp only; omega, ?_⟩
          dsimp only
          rw [hst]
          simp -failIfUnchanged (disch := first | omega | (simp <;> omega) | fail) only [go_sem, simprocAttr]
          try simp
    · have ei : i = b.ones.length := by omega
      subst ei
      have hbd1 := dw1_bd hv t who hbd0 b.ones.length (Nat.le_refl _)
      generalize dw1 b t who S0 b.ones.length = S1 at *
      simp -failIfUnchanged (disch := first | omega | (simp <;> omega) | fail) only [go_sem, simprocAttr]
      refine wp_loop' Nat (fun i => ⟨[(1, PS t), (2, .int who), (3, .ptr 3 0), (6, .ptr 6 0), (7, .ptr 7 0), (11, .int i)], [(7, ⟨[.int (dw2 b t who S1 i).lo, .int (dw2 b t who S1 i).hi], false⟩), (6, ⟨[.int 0, .int 0], false⟩), (3, ⟨FKc b, false⟩)], [], none⟩) (fun i => i ≤ b.others.length) (fun i => b.others.length - i) 0 (by simp) (by simp -failIfUnchanged (disch := first | omega | (simp <;> omega) | fail) only [go_sem, simprocAttr]; simp [dw2]) ?_
      intro i hi
      have hi : i ≤ b.others.length := hi
      simp -failIfUnchanged (disch := first | omega | (simp <;> omega) | fail) only [go_sem, simprocAttr]
      refine wcond_dec (fun h2 => ?_) (fun h2 => ?_)
      · have hil : i < b.others.length := by omega
        have hve := oth_v hv hil
        have hst : dw2 b t who S1 (i + 1) = if (oth b i).who = who ∧ inT t i = false then addS (dw2 b t who S1 i) (endsL b.base (oth b i).cord) else dw2 b t who S1 i := rfl
        have hbd := dw2_bd hv t who hbd1 i (by omega)
        have k45 := c45 t i (by omega)
        have k92 := c92 b hbp _ (cd_iff.2 hve.c)
        have k91 := c91s (dw2 b t who S1 i) (endsL b.base (oth b i).cord) hbd (by omega) (ends_bd hv hve.c)
        have g1 : b.others[i]?.getD default = oth b i := rfl
        obtain ⟨u, hu⟩ : ∃ u, (t.any fun p => decide (p.other = (i : Int))) = u := ⟨_, rfl⟩
        have hu2 : inT t i = u := hu
        rw [hu2] at hst
        rw [hu] at k45
        generalize dw2 b t who S1 i = S at *
        obtain ⟨w, hw⟩ : ∃ w, decide ((oth b i).who = who) = w := ⟨_, rfl⟩
        simp -failIfUnchanged (disch := first | omega | (simp <;> omega) | fail) only [go_sem, simprocAttr, g1, hw]
        cases w with
        | false =>
          have hw := of_decide_eq_false hw
          rw [if_neg (fun x => hw x.1)] at hst
          simp -failIfUnchanged (disch := first | omega | (simp <;> omega) | fail) only [go_sem, simprocAttr]
          refine ⟨i + 1, by dsimp only; omega, by dsimp only; omega, ?_⟩
          dsimp only
          rw [hst]
          simp -failIfUnchanged (disch := first | omega | (simp <;> omega) | fail) only [go_sem, simprocAttr]
          try simp
        | true =>
          have hw := of_decide_eq_true hw
          simp -failIfUnchanged (disch := first | omega | (simp <;> omega) | fail) only [go_sem, simprocAttr]
          refine wcall k45 ?_
          cases u with
          | true =>
            rw [if_neg (fun x => by cases x.2)] at hst
            simp -failIfUnchanged (disch := first | omega | (simp <;> omega) | fail) only [go_sem, simprocAttr]
            refine ⟨i + 1, by dsimp only; omega, by dsimp only; omega, ?_⟩
            dsimp only
            rw [hst]
            simp -failIfUnchanged (disch := first | omega | (simp <;> omega) | fail) only [go_sem, simprocAttr]
            try simp
          | false =>
            rw [if_pos ⟨hw, rfl⟩] at hst
            simp -failIfUnchanged (disch := first | omega | (simp <;> omega) | fail) only [go_sem, simprocAttr, g1]
            refine wcall k92 ?_
            simp -failIfUnchanged (disch := first | omega | (simp <;> omega) | fail) only [go_sem, simprocAttr]
            refine wcall k91 ?_
            simp -failIfUnchanged (disch := first | omega | (simp <;> omega) | fail) only [go_sem, simprocAttr]
            refine ⟨i + 1, by dsimp only; omega, by dsimp only; omega, ?_⟩
            dsimp only
            rw [hst]
            simp -failIfUnchanged (disch := first | omega | (simp <;> omega) | fail) only [go_sem, simprocAttr]
            try simp
      · have ei : i = b.others.length := by omega
        subst ei
        simp -failIfUnchanged (disch := first | omega | (simp <;> omega) | fail) only [go_sem, simprocAttr]
        try simp

end Go.Proofs.Ytemnojaoickjfaa


/- What a person owes by a matching: both sides' sums are the same. -/
set_option linter.unusedSimpArgs false
set_option linter.unusedVariables false
set_option linter.unnecessarySimpa false
namespace Go.Proofs.Ytemnojaoickjfaa
open Go Go.V

def zS : Sp := ⟨0, 0⟩
theorem sp_ext {a c : Sp} (h1 : a.lo = c.lo) (h2 : a.hi = c.hi) : a = c := by
  cases a; cases c; simp at h1 h2; rw [h1, h2]
theorem addS_comm (a c : Sp) : addS a c = addS c a := sp_ext (Int.add_comm _ _) (Int.add_comm _ _)
theorem addS_assoc (a c d : Sp) : addS (addS a c) d = addS a (addS c d) := sp_ext (Int.add_assoc _ _ _) (Int.add_assoc _ _ _)
theorem addS_z (a : Sp) : addS a zS = a := sp_ext (Int.add_zero _) (Int.add_zero _)
theorem z_addS (a : Sp) : addS zS a = a := sp_ext (Int.zero_add _) (Int.zero_add _)
theorem addS_4 (a c d e : Sp) : addS (addS a c) (addS d e) = addS (addS a d) (addS c e) := sp_ext (by unfold addS; dsimp only; omega) (by unfold addS; dsimp only; omega)
def sS (f : Nat → Sp) : Nat → Sp
  | 0 => zS
  | n + 1 => addS (sS f n) (f n)
def lS (F : Pa → Sp) : List Pa → Sp
  | [] => zS
  | p :: r => addS (F p) (lS F r)
theorem sS_add (f g : Nat → Sp) : ∀ n, sS (fun j => addS (f j) (g j)) n = addS (sS f n) (sS g n)
  | 0 => (addS_z zS).symm
  | n + 1 => by
    unfold sS
    rw [sS_add f g n, addS_4]
theorem sS_congr {f g : Nat → Sp} : ∀ {n : Nat}, (∀ j, j < n → f j = g j) → sS f n = sS g n
  | 0, _ => rfl
  | n + 1, h => by
    unfold sS
    rw [sS_congr (fun j hj => h j (by omega)), h n (by omega)]
theorem sS_z : ∀ n, sS (fun _ => zS) n = zS
  | 0 => rfl
  | n + 1 => by unfold sS; rw [sS_z n, addS_z]
theorem sS_one (c : Nat) (x : Sp) : ∀ n, sS (fun j => if c = j then x else zS) n = if c < n then x else zS
  | 0 => rfl
  | n + 1 => by
    unfold sS
    rw [sS_one c x n]
    by_cases h : c < n
    · rw [if_pos h, if_neg (by omega), if_pos (by omega), addS_z]
    · rw [if_neg h]
      by_cases e : c = n
      · rw [if_pos e, if_pos (by omega), z_addS]
      · rw [if_neg e, if_neg (by omega), addS_z]
theorem lS_app (F : Pa → Sp) : ∀ (l r : List Pa), lS F (l ++ r) = addS (lS F l) (lS F r)
  | [], r => (z_addS _).symm
  | p :: l, r => by
    show addS (F p) (lS F (l ++ r)) = _
    rw [lS_app F l r, ← addS_assoc]
    rfl
/-- What the pair of an entry adds. -/
def hitS (F : Pa → Sp) : List Pa → Nat → Sp
  | [], _ => zS
  | p :: r, j => if p.other = (j : Int) then F p else hitS F r j
theorem hitS_no (F : Pa → Sp) : ∀ {l : List Pa} {j : Nat}, (∀ p ∈ l, p.other ≠ (j : Int)) → hitS F l j = zS
  | [], _, _ => rfl
  | p :: r, j, h => by
    unfold hitS
    rw [if_neg (h p (by simp)), hitS_no F fun q hq => h q (by simp [hq])]
theorem hitS_at (F : Pa → Sp) : ∀ {l : List Pa} {j : Nat} {p : Pa}, (l.Pairwise fun p q => p.other ≠ q.other) → p ∈ l → p.other = (j : Int) → hitS F l j = F p
  | [], _, _, _, h, _ => by simp at h
  | q :: r, j, p, hd, hp, hj => by
    unfold hitS
    rcases List.mem_cons.1 hp with rfl | hp
    · rw [if_pos hj]
    · have := (List.pairwise_cons.1 hd).1 p hp
      rw [if_neg (fun e => this (by rw [e, hj])), hitS_at F (List.pairwise_cons.1 hd).2 hp hj]
theorem sS_hit (F : Pa → Sp) (n : Nat) : ∀ {l : List Pa}, (l.Pairwise fun p q => p.other ≠ q.other) → (∀ p ∈ l, 0 ≤ p.other ∧ p.other < (n : Int)) → sS (hitS F l) n = lS F l
  | [], _, _ => sS_z n
  | p :: r, hd, hb => by
    have ih := sS_hit F n (List.pairwise_cons.1 hd).2 fun q hq => hb q (by simp [hq])
    have hp := hb p (by simp)
    have e : sS (hitS F (p :: r)) n = sS (fun j => addS (if p.other.toNat = j then F p else zS) (hitS F r j)) n := by
      refine sS_congr fun j hj => ?_
      show (if p.other = (j : Int) then F p else hitS F r j) = _
      by_cases e : p.other = (j : Int)
      · rw [if_pos e, if_pos (by omega), hitS_no F fun q hq => by
          have := (List.pairwise_cons.1 hd).1 q hq
          intro e2
          exact this (by rw [e, e2]), addS_z]
      · rw [if_neg e, if_neg (by omega), z_addS]
    rw [e, sS_add, sS_one, if_pos (by omega), ih]
    rfl

/-! The sums. -/
def prF (b : FB) (who : Int) (p : Pa) : Sp := if (one b p.one.toNat).who = who then pcI b (one b p.one.toNat) (oth b p.other.toNat) else zS
def onF (b : FB) (t : List Pa) (who : Int) (i : Nat) : Sp := if (one b i).who = who ∧ inO t i = false then endsL b.base (one b i).cord else zS
def otF (b : FB) (t : List Pa) (who : Int) (j : Nat) : Sp := if (oth b j).who = who ∧ inT t j = false then endsL b.base (oth b j).cord else zS
def owC (b : FB) (t : List Pa) (who : Int) : Sp := addS (lS (prF b who) t) (addS (sS (onF b t who) b.ones.length) (sS (otF b t who) b.others.length))

theorem dwP_eq (b : FB) (t : List Pa) (who : Int) : ∀ k, k ≤ t.length → dwP b t who k = lS (prF b who) (t.take k)
  | 0, _ => by simp [dwP, lS, zS]
  | k + 1, h => by
    have ih := dwP_eq b t who k (by omega)
    obtain ⟨p, hp⟩ : ∃ p, t[k]?.getD default = p := ⟨_, rfl⟩
    have hts : t.take (k + 1) = t.take k ++ [p] := by
      have e2 : t[k] = p := by rw [← hp, List.getElem?_eq_getElem (by omega)]; rfl
      rw [List.take_add_one, List.getElem?_eq_getElem (by omega), e2]; rfl
    unfold dwP
    rw [hp, hts, lS_app, ← ih]
    unfold lS lS prF
    by_cases h1 : (one b p.one.toNat).who = who
    · rw [if_pos h1, if_pos h1, addS_z]
    · rw [if_neg h1, if_neg h1, addS_z, addS_z]
theorem dw1_eq (b : FB) (t : List Pa) (who : Int) (s : Sp) : ∀ k, dw1 b t who s k = addS s (sS (onF b t who) k)
  | 0 => (addS_z s).symm
  | k + 1 => by
    unfold dw1 sS
    rw [dw1_eq b t who s k]
    unfold onF
    split
    · rw [addS_assoc]
    · rw [addS_z]
theorem dw2_eq (b : FB) (t : List Pa) (who : Int) (s : Sp) : ∀ k, dw2 b t who s k = addS s (sS (otF b t who) k)
  | 0 => (addS_z s).symm
  | k + 1 => by
    unfold dw2 sS
    rw [dw2_eq b t who s k]
    unfold otF
    split
    · rw [addS_assoc]
    · rw [addS_z]
theorem dw_eq (b : FB) (t : List Pa) (who : Int) : dwI b t who = owC b t who := by
  unfold dwI owC
  rw [dw2_eq, dw1_eq, dwP_eq b t who _ (Nat.le_refl _), List.take_length, addS_assoc]
theorem ow1_eq (b : FB) (t : List Pa) (who : Int) : ∀ k, ow1K b t who k = sS (onF b t who) k
  | 0 => rfl
  | k + 1 => by
    unfold ow1K sS
    rw [ow1_eq b t who k]
    unfold onF
    by_cases h : (one b k).who = who ∧ inO t k = false
    · rw [if_pos ⟨h.2, h.1⟩, if_pos h]
    · rw [if_neg (fun x => h ⟨x.2, x.1⟩), if_neg h, addS_z]
theorem any_inT {t : List Pa} {j : Nat} : inT t j = false ↔ ∀ p ∈ t, p.other ≠ (j : Int) := by
  unfold inT
  rw [List.any_eq_false]
  simp
theorem idx_neg {α : Type} {p : α → Bool} {l : List α} : idxF p l < 0 ↔ l.any p = false := by
  unfold idxF
  cases h : l.any p with
  | true => simp
  | false => simp
theorem oth_eq {b : FB} {t : List Pa} (hg : GM b b.ones.length t) (who : Int) {j : Nat} (hj : j < b.others.length) : (if (oth b j).who = who then othS b t j else zS) = addS (hitS (prF b who) t j) (otF b t who j) := by
  unfold othS otF
  by_cases hn : idxF (fun p : Pa => decide (p.other = (j : Int))) t < 0
  · rw [if_pos hn]
    have h1 := idx_neg.1 hn
    have h2 : inT t j = false := h1
    rw [hitS_no _ (any_inT.1 h2), z_addS]
    by_cases h : (oth b j).who = who
    · rw [if_pos h, if_pos ⟨h, h2⟩]
    · rw [if_neg h, if_neg (fun x => h x.1)]
  · rw [if_neg hn]
    obtain ⟨k, e1, hk, hkp⟩ := idx_at hn
    obtain ⟨p, q, e, hp, hq, hc⟩ := gm_at hg hk
    rw [e1, Int.toNat_natCast, e]
    rw [e] at hkp
    have hkp := of_decide_eq_true hkp
    dsimp only at hkp
    have : q = j := by omega
    subst this
    have h2 : inT t q = true := by
      cases h : inT t q with
      | true => rfl
      | false => exact absurd (idx_neg.2 h) hn
    have hmem : (⟨(p : Int), (q : Int)⟩ : Pa) ∈ t := by rw [← e]; exact mem_getD hk
    have hnn : ¬ ((oth b q).who = who ∧ true = false) := by simp
    rw [hitS_at (prF b who) hg.d hmem rfl, h2, if_neg hnn, addS_z]
    unfold prF
    dsimp only
    simp only [Int.toNat_natCast]
    have hw : (one b p).who = (oth b q).who := by
      unfold comB at hc
      simp only [Bool.and_eq_true, decide_eq_true_eq] at hc
      exact hc.1
    rw [hw]
theorem ow2_eq {b : FB} {t : List Pa} (hg : GM b b.ones.length t) (who : Int) (s : Sp) : ∀ k, k ≤ b.others.length → ow2K b t who s k = addS s (sS (fun j => addS (hitS (prF b who) t j) (otF b t who j)) k)
  | 0, _ => (addS_z s).symm
  | k + 1, h => by
    unfold ow2K sS
    rw [ow2_eq hg who s k (by omega), ← oth_eq hg who (by omega)]
    split
    · rw [addS_assoc]
    · rw [addS_z]
/-- What the program adds. -/
theorem ow_eq {b : FB} {t : List Pa} (hg : GM b b.ones.length t) (who : Int) : owdI b t who = owC b t who := by
  unfold owdI owC
  rw [ow2_eq hg who _ _ (Nat.le_refl _), sS_add, ow1_eq, sS_hit _ _ hg.d (fun p hp => (hg.p p hp).2.1), ← addS_assoc, addS_comm (sS (onF b t who) _), addS_assoc]

end Go.Proofs.Ytemnojaoickjfaa


/- FinesOwed. -/
set_option linter.unusedSimpArgs false
set_option linter.unusedVariables false
set_option linter.unnecessarySimpa false
namespace Go.Proofs.Ytemnojaoickjfaa
open Go Go.V

theorem c57o (b : FB) (hv : VF b) (t : List Pa) (hg : GM b b.ones.length t) (who : Int) : Ctr Try.prog 57 [FK b, PS t, .int who] (SP (owdI b t who)) := by
  have := c57 b hv t hg who
  rw [dw_eq, ← ow_eq hg] at this
  exact this

theorem c30 (b : FB) (hs : SmF b) (who : Int) : Ctr Try.prog 30 [FK b, .int who] (owdR b who) := by
  refine ctr_of_wp hmix Try.func30 m30 rfl ?_
  unfold v30 owdR
  have a1 := c75 b who
  have a2 := c74 b hs (within who 0 (w64 (b.persons - 1)))
  obtain ⟨e, hE⟩ : ∃ e, owE b who = e := ⟨_, rfl⟩
  have hE' : askF b (within who 0 (w64 (b.persons - 1))) = e := hE
  rw [hE'] at a2
  rw [hE]
  simp -failIfUnchanged (disch := first | omega | (simp <;> omega) | fail) only [go_sem, simprocAttr]
  refine wcall a1 ?_
  simp -failIfUnchanged (disch := first | omega | (simp <;> omega) | fail) only [go_sem, simprocAttr]
  refine wcall a2 ?_
  by_cases h0 : e = 0
  · subst h0
    obtain ⟨hc, _⟩ := pr_0 hE'
    have hv := vf_of hc
    have k2 := c66 b hv
    have hne := lrgL_ne b
    have hgm : ∀ x ∈ lrgL b, GM b b.ones.length x := fun x hx => (mem_lrg.1 hx).1
    have h0 : 0 < (lrgL b).length := List.length_pos_iff.2 hne
    have hsm := lrg_small hv
    generalize lrgL b = M at k2 hgm h0 hsm ⊢
    have c57a : ∀ i, i < M.length → Ctr Try.prog 57 [FK b, PS (M[i]?.getD default), .int who] (SP (owdI b (M[i]?.getD default) who)) := fun i hi => c57o b hv _ (hgm _ (mem_getD hi)) who
    have hat : ∀ i, i < M.length → (M.map PS)[i]?.getD .nul = PS (M[i]?.getD default) := fun i hi => by simp [hi]
    have c0 := c57a 0 h0
    have e0 := hat 0 h0
    simp -failIfUnchanged (disch := first | omega | (simp <;> omega) | fail) only [go_sem, simprocAttr]
    refine wcall k2 ?_
    simp -failIfUnchanged (disch := first | omega | (simp <;> omega) | fail) only [go_sem, simprocAttr, e0]
    refine wcall c0 ?_
    simp -failIfUnchanged (disch := first | omega | (simp <;> omega) | fail) only [go_sem, simprocAttr]
    refine wp_loop' Nat (fun i => ⟨[(1, .int who), (2, .ptr 2 0), (4, .ptr 4 0), (7, .sl 1 (M.map PS) .sh), (8, .ptr 8 0), (9, .int i)],
        [(8, ⟨[.int (rgK b who M i).lo, .int (rgK b who M i).hi], false⟩), (4, ⟨[.int 0, .int 0], false⟩), (2, ⟨FKc b, false⟩)], [], none⟩) (fun i => i ≤ M.length) (fun i => M.length - i) 0 (by simp) (by simp -failIfUnchanged (disch := first | omega | (simp <;> omega) | fail) only [go_sem, simprocAttr]; simp [rgK]) ?_
    intro i hi
    have hi : i ≤ M.length := hi
    simp -failIfUnchanged (disch := first | omega | (simp <;> omega) | fail) only [go_sem, simprocAttr]
    refine wcond_dec (fun h1 => ?_) (fun h1 => ?_)
    · have hil : i < M.length := by omega
      have c1 := c57a i hil
      have e1 := hat i hil
      have hst : rgK b who M (i + 1) = ⟨min (rgK b who M i).lo (owdI b (M[i]?.getD default) who).lo, max (rgK b who M i).hi (owdI b (M[i]?.getD default) who).hi⟩ := rfl
      simp -failIfUnchanged (disch := first | omega | (simp <;> omega) | fail) only [go_sem, simprocAttr, e1]
      refine wcall c1 ?_
      simp -failIfUnchanged (disch := first | omega | (simp <;> omega) | fail) only [go_sem, simprocAttr]
      refine ⟨i + 1, by dsimp only; omega, by dsimp only; omega, ?_⟩
      dsimp only
      rw [hst]
      simp -failIfUnchanged (disch := first | omega | (simp <;> omega) | fail) only [go_sem, simprocAttr]
      try simp
    · have e : i = M.length := by omega
      subst e
      simp -failIfUnchanged (disch := first | omega | (simp <;> omega) | fail) only [go_sem, simprocAttr]
      try simp
  · have hd : decide (¬ e = 0) = true := decide_eq_true h0
    simp -failIfUnchanged (disch := first | omega | (simp <;> omega) | fail) only [go_sem, simprocAttr, hd]
    simp [h0]

theorem c6 (b : FB) (who : Int) : Ctr Try.prog 6 [FK b, .int who] (.bool true) := by
  refine ctr_of_wp hmix Try.func6 m6 rfl ?_
  unfold v6
  simp -failIfUnchanged (disch := first | omega | (simp <;> omega) | fail) only [go_sem, simprocAttr]
  refine wcall (c14 b) ?_
  cases hf : farF b with
  | true =>
    simp -failIfUnchanged (disch := first | omega | (simp <;> omega) | fail) only [go_sem, simprocAttr]
    refine wcall c15 ?_
    simp -failIfUnchanged (disch := first | omega | (simp <;> omega) | fail) only [go_sem, simprocAttr]
  | false =>
    have hs := far_f hf
    have a1 := c28 b hs
    have a2 := c29 b hs
    have a3 := c25 b hs who
    have a4 := c30 b hs who
    have a5 := c31 b hs
    unfold fewR at a1 a2
    unfold owdR at a3 a4
    unfold matR at a5
    cases hc : chkB b with
    | false =>
      have he : errF b = 130 := by unfold errF; rw [hc]; rfl
      have hno : decide (¬ (130 : Int) = 0) = true := by decide
      rw [hc, he] at a1 a2 a5
      simp -failIfUnchanged (disch := first | omega | (simp <;> omega) | fail) only [go_sem, simprocAttr]
      refine wcall (c16 b hs) ?_
      simp -failIfUnchanged (disch := first | omega | (simp <;> omega) | fail) only [go_sem, simprocAttr]
      refine wcall a1 ?_
      simp -failIfUnchanged (disch := first | omega | (simp <;> omega) | fail) only [go_sem, simprocAttr]
      refine wcall a2 ?_
      simp -failIfUnchanged (disch := first | omega | (simp <;> omega) | fail) only [go_sem, simprocAttr]
      refine wcall a3 ?_
      simp -failIfUnchanged (disch := first | omega | (simp <;> omega) | fail) only [go_sem, simprocAttr]
      refine wcall a4 ?_
      simp -failIfUnchanged (disch := first | omega | (simp <;> omega) | fail) only [go_sem, simprocAttr]
      refine wcall a5 ?_
      simp -failIfUnchanged (disch := first | omega | (simp <;> omega) | fail) only [go_sem, simprocAttr, eq_self]
      refine wcall (c21 b hs) ?_
      simp -failIfUnchanged (disch := first | omega | (simp <;> omega) | fail) only [go_sem, simprocAttr, hno]
      refine wcall c15 ?_
      simp -failIfUnchanged (disch := first | omega | (simp <;> omega) | fail) only [go_sem, simprocAttr]
    | true =>
      have he : errF b = 0 := by unfold errF; rw [hc]; rfl
      have hno : decide (¬ (0 : Int) = 0) = false := by decide
      have hv := vf_of hc
      have hn1 := hv.n1
      have hn2 := hv.n2
      have hg : GM b b.ones.length (fstM b) := (mem_lrg.1 (fst_most b).1).1
      have hfl := fst_len hv
      have a6 := c32 b hv (fstM b) (by omega)
      rw [(mat_gm hv).2 hg] at a6
      have hfe : fewI b = (b.ones.length : Int) + b.others.length - (fstM b).length := rfl
      rw [hc, he] at a1 a2 a5
      simp only [if_true] at a1 a2 a5
      generalize fstM b = F at *
      generalize fewI b = W at *
      subst hfe
      simp -failIfUnchanged (disch := first | omega | (simp <;> omega) | fail) only [go_sem, simprocAttr]
      refine wcall (c16 b hs) ?_
      simp -failIfUnchanged (disch := first | omega | (simp <;> omega) | fail) only [go_sem, simprocAttr]
      refine wcall a1 ?_
      simp -failIfUnchanged (disch := first | omega | (simp <;> omega) | fail) only [go_sem, simprocAttr]
      refine wcall a2 ?_
      simp -failIfUnchanged (disch := first | omega | (simp <;> omega) | fail) only [go_sem, simprocAttr]
      refine wcall a3 ?_
      simp -failIfUnchanged (disch := first | omega | (simp <;> omega) | fail) only [go_sem, simprocAttr]
      refine wcall a4 ?_
      simp -failIfUnchanged (disch := first | omega | (simp <;> omega) | fail) only [go_sem, simprocAttr]
      refine wcall a5 ?_
      simp -failIfUnchanged (disch := first | omega | (simp <;> omega) | fail) only [go_sem, simprocAttr, eq_self]
      refine wcall (c21 b hs) ?_
      simp -failIfUnchanged (disch := first | omega | (simp <;> omega) | fail) only [go_sem, simprocAttr, hno]
      refine wcall a6 ?_
      have e9 : decide ((F.length : Int) = (b.ones.length : Int) + b.others.length - ((b.ones.length : Int) + b.others.length - F.length)) = true := decide_eq_true (by omega)
      simp -failIfUnchanged (disch := first | omega | (simp <;> omega) | fail) only [go_sem, simprocAttr, e9]
      refine wcall c15 ?_
      simp -failIfUnchanged (disch := first | omega | (simp <;> omega) | fail) only [go_sem, simprocAttr]

end Go.Proofs.Ytemnojaoickjfaa


/- Maps with pairs as keys; Must. -/
set_option linter.unusedSimpArgs false
set_option linter.unusedVariables false
set_option linter.unnecessarySimpa false
namespace Go.Proofs.Ytemnojaoickjfaa
open Go Go.V Go.WideShapes

theorem bid_nilp : AV.bid .nilp = [] := rfl
theorem strip_nilp {hp : HpL} : strip hp .nilp = .nilp := rfl
theorem isUnd_nilp : AV.isUnd .nilp = false := rfl
theorem bid_mpr {l : Nat} : AV.bid (.mpr l) = [] := rfl
theorem strip_mpr {hp : HpL} {l : Nat} : strip hp (.mpr l) = .mpr l := rfl
theorem isUnd_mpr {l : Nat} : AV.isUnd (.mpr l) = false := rfl
theorem inS_mpr {τ : AS} {l : Nat} : inScope τ (.mpr l) = True := rfl
attribute [go_sem] inS_mpr bid_nilp strip_nilp isUnd_nilp bid_mpr strip_mpr isUnd_mpr

end Go.Proofs.Ytemnojaoickjfaa


/- The document's Must and Alone; Twice; FinesMust. -/
set_option linter.unusedSimpArgs false
set_option linter.unusedVariables false
set_option linter.unnecessarySimpa false
namespace Go.Proofs.Ytemnojaoickjfaa
open Go Go.V

end Go.Proofs.Ytemnojaoickjfaa


/- Twice; FinesMust. -/
set_option linter.unusedSimpArgs false
set_option linter.unusedVariables false
set_option linter.unnecessarySimpa false
namespace Go.Proofs.Ytemnojaoickjfaa
open Go Go.V

/-- The pairs of a book's entries that could be one: row by row. -/
def twP (late : Int) (l : List En) (i k : Nat) : Bool := decide (i < k) && comB late (l[i]?.getD default) (l[k]?.getD default)
def twR (late : Int) (l : List En) (i m : Nat) : List Pa := ((List.range m).filter (twP late l i)).map fun k : Nat => (⟨(i : Int), (k : Int)⟩ : Pa)
def twK (late : Int) (l : List En) : Nat → List Pa
  | 0 => []
  | i + 1 => twK late l i ++ twR late l i l.length
def twcR (b : FB) (n : Int) : AV := .tup [PS (if bkE b n = 0 then twK b.late (bokL b n) (bokL b n).length else []), .int (bkE b n)]
theorem twR_succ (late : Int) (l : List En) (i m : Nat) : twR late l i (m + 1) = twR late l i m ++ (if twP late l i m then [⟨(i : Int), (m : Int)⟩] else []) := by
  unfold twR
  rw [List.range_succ, List.filter_append, List.map_append]
  congr 1
  by_cases h : twP late l i m <;> simp [h]
theorem twR_0 (late : Int) (l : List En) (i : Nat) : twR late l i (i + 1) = [] := by
  unfold twR
  have : (List.range (i + 1)).filter (twP late l i) = [] := by
    rw [List.filter_eq_nil_iff]
    intro k hk
    have := List.mem_range.1 hk
    have : decide (i < k) = false := decide_eq_false (by omega)
    simp [twP, this]
  rw [this]
  rfl
theorem twR_len (late : Int) (l : List En) (i m : Nat) : (twR late l i m).length ≤ m := by
  unfold twR
  rw [List.length_map]
  exact Nat.le_trans (List.length_filter_le _ _) (by simp)
theorem twK_len (late : Int) (l : List En) : ∀ i, (twK late l i).length ≤ i * l.length
  | 0 => by simp [twK]
  | i + 1 => by
    unfold twK
    rw [List.length_append, Nat.succ_mul]
    have := twK_len late l i
    have := twR_len late l i l.length
    omega
theorem bok_v {b : FB} (hv : VF b) {n : Int} {i : Nat} (h : i < (bokL b n).length) : VE b ((bokL b n)[i]?.getD default) := by
  have := mem_getD h
  unfold bokL at this ⊢
  by_cases e : n = 0
  · rw [if_pos e] at this ⊢; exact hv.e1 _ this
  · rw [if_neg e] at this ⊢; exact hv.e2 _ this
theorem bok_5 {b : FB} (hv : VF b) (n : Int) : (bokL b n).length ≤ 5 := by
  have := hv.n1
  have := hv.n2
  unfold bokL
  split <;> omega

set_option maxRecDepth 10000 in
theorem c60 (b : FB) (hs : SmF b) (n : Int) : Ctr Try.prog 60 [FK b, .int n] (twcR b n) := by
  refine ctr_of_wp hmix Try.func60 m60 rfl ?_
  unfold v60 twcR
  have a1 := c71 n 0 1
  have a2 := c70 b hs (within n 0 1)
  obtain ⟨e, hE⟩ : ∃ e, bkE b n = e := ⟨_, rfl⟩
  have hE' : askF b (within n 0 1) = e := hE
  rw [hE'] at a2
  rw [hE]
  simp -failIfUnchanged (disch := first | omega | (simp <;> omega) | fail) only [go_sem, simprocAttr]
  refine wcall a1 ?_
  simp -failIfUnchanged (disch := first | omega | (simp <;> omega) | fail) only [go_sem, simprocAttr]
  refine wcall a2 ?_
  by_cases h0 : e = 0
  · subst h0
    obtain ⟨hc, hw⟩ := pr_0 hE'
    have hv := vf_of hc
    have k3 := c73 b n
    have hl5 := bok_5 hv n
    have hve : ∀ i, i < (bokL b n).length → VE b ((bokL b n)[i]?.getD default) := fun i hi => bok_v hv hi
    generalize bokL b n = l at k3 hl5 hve ⊢
    have hpl := hv.pl
    simp -failIfUnchanged (disch := first | omega | (simp <;> omega) | fail) only [go_sem, simprocAttr]
    refine wcall k3 ?_
    simp -failIfUnchanged (disch := first | omega | (simp <;> omega) | fail) only [go_sem, simprocAttr]
    refine wp_loop' Nat (fun i => ⟨[(2, .ptr 2 0), (7, ES l), (9, .sl 2 ((twK b.late l i).map PA) (.own 9)), (28, ES l), (29, .int l.length), (30, .int i)], [(2, ⟨FKc b, false⟩)], [(9, (twK b.late l i).length)], none⟩) (fun i => i ≤ l.length) (fun i => l.length - i) 0 (by simp) (by simp -failIfUnchanged (disch := first | omega | (simp <;> omega) | fail) only [go_sem, simprocAttr]; simp [twK]) ?_
    intro i hi
    have hi : i ≤ l.length := hi
    have hkl := twK_len b.late l i
    have hkl2 : i * l.length ≤ 25 := by have := Nat.mul_le_mul (show i ≤ 5 by omega) hl5; omega
    simp -failIfUnchanged (disch := first | omega | (simp <;> omega) | fail) only [go_sem, simprocAttr]
    refine wcond_dec (fun h1 => ?_) (fun h1 => ?_)
    · have hil : i < l.length := by omega
      obtain ⟨x, hx⟩ : ∃ x, l[i]?.getD default = x := ⟨_, rfl⟩
      have hvx := hve i hil
      rw [hx] at hvx
      have hks : twK b.late l (i + 1) = twK b.late l i ++ twR b.late l i l.length := rfl
      simp -failIfUnchanged (disch := first | omega | (simp <;> omega) | fail) only [go_sem, simprocAttr, hx]
      refine wp_loop' Nat (fun k => ⟨[(2, .ptr 2 0), (7, ES l), (9, .sl 2 ((twK b.late l i ++ twR b.late l i k).map PA) (.own 9)), (10, .int i), (11, .ptr 11 0), (12, .int k), (28, ES l), (29, .int l.length), (30, .int i)],
        [(11, ⟨[.int x.day, .int x.who, SS x.cord], false⟩), (2, ⟨FKc b, false⟩)], [(9, (twK b.late l i ++ twR b.late l i k).length)], none⟩) (fun k => i < k ∧ k ≤ l.length) (fun k => l.length - k) (i + 1) ⟨by omega, by omega⟩ (by rw [twR_0]; simp -failIfUnchanged (disch := first | omega | (simp <;> omega) | fail) only [go_sem, simprocAttr]; simp) ?_
      rintro k ⟨hik, hk⟩
      have hrl := twR_len b.late l i k
      have hal : (twK b.late l i ++ twR b.late l i k).length ≤ 100 := by rw [List.length_append]; omega
      have hrs3 : twK b.late l i ++ twR b.late l i (k + 1) = (twK b.late l i ++ twR b.late l i k) ++ (if twP b.late l i k then [⟨(i : Int), (k : Int)⟩] else []) := by rw [twR_succ, List.append_assoc]
      have hks2 : k = l.length → twK b.late l (i + 1) = twK b.late l i ++ twR b.late l i k := fun e => by subst e; rfl
      generalize twK b.late l i ++ twR b.late l i k = A at hal hrs3 hks2 ⊢
      simp -failIfUnchanged (disch := first | omega | (simp <;> omega) | fail) only [go_sem, simprocAttr]
      refine wcond_dec (fun h2 => ?_) (fun h2 => ?_)
      · have hkl : k < l.length := by omega
        obtain ⟨y, hy⟩ : ∃ y, l[k]?.getD default = y := ⟨_, rfl⟩
        have hvy := hve k hkl
        rw [hy] at hvy
        have hn2 := hvy.c.n
        have k79 := c79 b.late x y (by rw [both_len hvx.c hvy.c]; exact Nat.le_refl _) (by omega)
        have htp : twP b.late l i k = comB b.late x y := by
          unfold twP
          rw [hx, hy, decide_eq_true hik, Bool.true_and]
        have hrs2 := hrs3
        rw [htp] at hrs2
        simp -failIfUnchanged (disch := first | omega | (simp <;> omega) | fail) only [go_sem, simprocAttr, hy]
        refine wcall k79 ?_
        simp -failIfUnchanged (disch := first | omega | (simp <;> omega) | fail) only [go_sem, simprocAttr]
        cases hcm : comB b.late x y with
        | true =>
          rw [hcm] at hrs2
          simp -failIfUnchanged (disch := first | omega | (simp <;> omega) | fail) only [go_sem, simprocAttr]
          refine ⟨k + 1, ⟨by omega, by omega⟩, by dsimp only; omega, ?_⟩
          dsimp only
          have hln := congrArg List.length hrs2
          simp only [List.length_append, if_true, Bool.false_eq_true, if_false, List.length_cons, List.length_nil] at hln
          rw [hrs2]
          simp -failIfUnchanged (disch := first | omega | (simp <;> omega) | fail) only [go_sem, simprocAttr]
          try simp
          try omega
        | false =>
          rw [hcm] at hrs2
          simp -failIfUnchanged (disch := first | omega | (simp <;> omega) | fail) only [go_sem, simprocAttr]
          refine ⟨k + 1, ⟨by omega, by omega⟩, by dsimp only; omega, ?_⟩
          dsimp only
          have hln := congrArg List.length hrs2
          simp only [List.length_append, if_true, Bool.false_eq_true, if_false, List.length_cons, List.length_nil] at hln
          rw [hrs2]
          simp -failIfUnchanged (disch := first | omega | (simp <;> omega) | fail) only [go_sem, simprocAttr]
          try simp
          try omega
      · have ek : k = l.length := by omega
        simp -failIfUnchanged (disch := first | omega | (simp <;> omega) | fail) only [go_sem, simprocAttr]
        refine ⟨i + 1, by dsimp only; omega, by dsimp only; omega, ?_⟩
        dsimp only
        rw [hks2 ek]
        simp -failIfUnchanged (disch := first | omega | (simp <;> omega) | fail) only [go_sem, simprocAttr]
        try simp
    · have ei : i = l.length := by omega
      subst ei
      simp -failIfUnchanged (disch := first | omega | (simp <;> omega) | fail) only [go_sem, simprocAttr]
      try simp
  · have hd : decide (¬ e = 0) = true := decide_eq_true h0
    simp -failIfUnchanged (disch := first | omega | (simp <;> omega) | fail) only [go_sem, simprocAttr, hd]
    simp [h0]

end Go.Proofs.Ytemnojaoickjfaa


/- Matchings: how great they can be; in whatever order. -/
set_option linter.unusedSimpArgs false
set_option linter.unusedVariables false
set_option linter.unnecessarySimpa false
namespace Go.Proofs.Ytemnojaoickjfaa
open Go Go.V

theorem fst_gm (b : FB) : GM b b.ones.length (fstM b) := (mem_lrg.1 (fst_most b).1).1
theorem most_le {b : FB} {t : List Pa} (h : GM b b.ones.length t) : t.length ≤ (fstM b).length := (mem_lrg.1 (fst_most b).1).2 t h
theorem lrg_iff {b : FB} {t : List Pa} : t ∈ lrgL b ↔ GM b b.ones.length t ∧ t.length = (fstM b).length := by
  rw [mem_lrg]
  constructor
  · rintro ⟨h1, h2⟩
    exact ⟨h1, Nat.le_antisymm (most_le h1) (h2 _ (fst_gm b))⟩
  · rintro ⟨h1, h2⟩
    exact ⟨h1, fun x hx => by rw [h2]; exact most_le hx⟩

/-! Different numbers below n are at most n. -/
theorem filter_ne_len (a : Int) : ∀ (l : List Int), l.Pairwise (fun x y => x ≠ y) → l.length ≤ (l.filter fun x => decide (x ≠ a)).length + 1
  | [], _ => by simp
  | x :: r, h => by
    have h1 := List.pairwise_cons.1 h
    by_cases e : x = a
    · subst e
      have : (r.filter fun y => decide (y ≠ x)) = r := List.filter_eq_self.2 fun y hy => decide_eq_true (fun e => h1.1 y hy e.symm)
      rw [List.filter_cons, this]
      simp
    · have ih := filter_ne_len a r h1.2
      rw [List.filter_cons, if_pos (decide_eq_true e)]
      simp only [List.length_cons]
      omega
theorem nodup_len : ∀ (n : Nat) (l : List Int), l.Pairwise (fun x y => x ≠ y) → (∀ x ∈ l, 0 ≤ x ∧ x < (n : Int)) → l.length ≤ n
  | 0, l, _, h => by
    cases l with
    | nil => simp
    | cons x r => have := h x (by simp); omega
  | n + 1, l, hd, h => by
    have h1 := filter_ne_len n l hd
    have h2 := nodup_len n (l.filter fun x => decide (x ≠ (n : Int))) (hd.filter _) fun x hx => by
      have hx := List.mem_filter.1 hx
      have h3 := h x hx.1
      have h4 := of_decide_eq_true hx.2
      omega
    omega

/-- A matching in whatever order. -/
structure UM (b : FB) (t : List Pa) : Prop where
  p : ∀ p ∈ t, (0 ≤ p.one ∧ p.one < (b.ones.length : Int)) ∧ (0 ≤ p.other ∧ p.other < (b.others.length : Int)) ∧ comB b.late (one b p.one.toNat) (oth b p.other.toNat) = true
  o : t.Pairwise fun p q => p.one ≠ q.one
  d : t.Pairwise fun p q => p.other ≠ q.other
theorem gm_um {b : FB} {t : List Pa} (h : GM b b.ones.length t) : UM b t := ⟨h.p, h.o.imp fun h => by omega, h.d⟩
theorem um_others {b : FB} {t : List Pa} (h : UM b t) : t.length ≤ b.others.length := by
  have := nodup_len b.others.length (t.map fun p => p.other) (h.d.map _ fun _ _ h => h) fun x hx => by
    obtain ⟨p, hp, rfl⟩ := List.mem_map.1 hx
    exact (h.p p hp).2.1
  simpa using this
theorem fst_others (b : FB) : (fstM b).length ≤ b.others.length := um_others (gm_um (fst_gm b))
theorem fst_ones (b : FB) : (fstM b).length ≤ b.ones.length := gm_len (fst_gm b)

/-- Fewest as the laws ask for it. -/
theorem c23 (b : FB) (hs : SmF b) (hc : chkB b = true) : Ctr Try.prog 23 [FK b] (.tup [.int (fewI b), .bool true]) := by
  refine ctr_of_wp hmix Try.func23 m23 rfl ?_
  unfold v23
  have k := c28 b hs
  have he : errF b = 0 := by unfold errF; rw [hc]; rfl
  unfold fewR at k
  rw [he, if_pos hc] at k
  have h1 := fst_others b
  have h2 := fst_ones b
  have hv := vf_of hc
  have hn1 := hv.n1
  have hn2 := hv.n2
  have hf : fewI b = (b.ones.length : Int) + b.others.length - (fstM b).length := rfl
  generalize fewI b = F at *
  have e1 : decide (max (b.ones.length : Int) b.others.length ≤ F) = true := decide_eq_true (by omega)
  have e2 : decide (F ≤ (b.ones.length : Int) + b.others.length) = true := decide_eq_true (by omega)
  simp -failIfUnchanged (disch := first | omega | (simp <;> omega) | fail) only [go_sem, simprocAttr]
  refine wcall k ?_
  simp -failIfUnchanged (disch := first | omega | (simp <;> omega) | fail) only [go_sem, simprocAttr, eq_self, e1, e2]

theorem rdy_of {b : FB} (h : rdyF b = true) : SmF b ∧ chkB b = true ∧ VF b := by
  unfold rdyF at h
  rw [Bool.and_eq_true, Bool.not_eq_true'] at h
  exact ⟨smf_of h.1, h.2, vf_of h.2⟩

/-! What the answers say of each largest matching. -/
theorem ld_le {b : FB} (hv : VF b) {t : List Pa} (ht : t ∈ lrgL b) : 0 ≤ ldK b (lrgL b) (lrgL b).length ∧ ldK b (lrgL b) (lrgL b).length ≤ dsI b t := by
  have hgm : ∀ x ∈ lrgL b, GM b b.ones.length x := fun x hx => (mem_lrg.1 hx).1
  have h0 : 0 < (lrgL b).length := List.length_pos_iff.2 (lrgL_ne b)
  have hlm : ldK b (lrgL b) (lrgL b).length = mnK b (lrgL b) (lrgL b).length := by
    have := ld_mn hv hgm ((lrgL b).length - 1) (by omega)
    rwa [show (lrgL b).length - 1 + 1 = (lrgL b).length by omega] at this
  rw [hlm]
  generalize lrgL b = M at *
  have key : ∀ k, k ≤ M.length → 0 ≤ mnK b M k ∧ ∀ i, i < k → mnK b M k ≤ dsI b (M[i]?.getD default) := by
    intro k
    induction k with
    | zero => intro _; exact ⟨(dsK_bd hv (hgm _ (mem_getD h0)) _ (Nat.le_refl _)).1, fun i hi => by omega⟩
    | succ k ih =>
      intro hk
      obtain ⟨a1, a2⟩ := ih (by omega)
      have a3 : 0 ≤ dsI b (M[k]?.getD default) := (dsK_bd hv (hgm _ (mem_getD (by omega))) _ (Nat.le_refl _)).1
      unfold mnK
      refine ⟨by omega, fun i hi => ?_⟩
      by_cases e : i = k
      · subst e; omega
      · have := a2 i (by omega); omega
  obtain ⟨i, hi, e⟩ := List.mem_iff_getElem.1 ht
  obtain ⟨a1, a2⟩ := key M.length (Nat.le_refl _)
  have := a2 i hi
  rw [List.getElem?_eq_getElem hi] at this
  refine ⟨a1, ?_⟩
  rw [← e]
  exact this
end Go.Proofs.Ytemnojaoickjfaa


/- FinesLater. -/
set_option linter.unusedSimpArgs false
set_option linter.unusedVariables false
set_option linter.unnecessarySimpa false
namespace Go.Proofs.Ytemnojaoickjfaa
open Go Go.V

theorem com_late {b : FB} {l : Int} (hl : b.late ≤ l) {x y : En} (h : comB b.late x y = true) : comB (lat b l).late x y = true := by
  unfold comB at h ⊢
  simp only [Bool.and_eq_true, decide_eq_true_eq] at h ⊢
  exact ⟨h.1, Int.le_trans h.2.1 hl, h.2.2⟩
theorem gm_late {b : FB} {l : Int} (hl : b.late ≤ l) {t : List Pa} (h : GM b b.ones.length t) : GM (lat b l) (lat b l).ones.length t :=
  ⟨fun p hp => ⟨(h.p p hp).1, (h.p p hp).2.1, com_late hl (h.p p hp).2.2⟩, h.o, h.d⟩
theorem few_late {b : FB} {l : Int} (hl : b.late ≤ l) : fewI (lat b l) ≤ fewI b := by
  have := most_le (gm_late hl (fst_gm b))
  unfold fewI
  show (b.ones.length : Int) + b.others.length - _ ≤ _
  omega
theorem few_lat2 {b : FB} {l m : Int} (hl : l ≤ m) : fewI (lat b m) ≤ fewI (lat b l) := few_late (b := lat b l) hl
theorem fstN_spec (p : Nat → Bool) (n : Nat) : ∃ k, fstN p n = k ∧ k ≤ n ∧ (∀ i, i < k → p i = false) ∧ (k = n ∨ p k = true) := by
  have key : ∀ m, (∃ k, k ≤ m ∧ (∀ i, i < k → p i = false) ∧ (k = m ∨ p k = true)) := by
    intro m
    induction m with
    | zero => exact ⟨0, Nat.le_refl _, fun i hi => by omega, .inl rfl⟩
    | succ m ih =>
      obtain ⟨k, h1, h2, h3⟩ := ih
      by_cases hk : p k = true
      · exact ⟨k, by omega, h2, .inr hk⟩
      · have e : k = m := h3.resolve_right hk
        subst e
        exact ⟨k + 1, Nat.le_refl _, fun i hi => by
          by_cases e : i = k
          · subst e; simpa using hk
          · exact h2 i (by omega), .inl rfl⟩
  obtain ⟨k, h1, h2, h3⟩ := key n
  exact ⟨k, fstN_eq h1 h2 h3, h1, h2, h3⟩
theorem lt_spec (b : FB) : ltN b ≤ 30 ∧ fewI (lat b (ltN b : Nat)) = fewI (lat b 30) ∧ ∀ i : Nat, i < ltN b → fewI (lat b 30) < fewI (lat b i) := by
  obtain ⟨k, h1, h2, h3, h4⟩ := fstN_spec (ltP b) 30
  have h1' : ltN b = k := h1
  rw [h1']
  refine ⟨h2, ?_, fun i hi => ?_⟩
  · apply Int.le_antisymm
    · rcases h4 with rfl | h4
      · exact Int.le_refl _
      · exact of_decide_eq_true h4
    · exact few_lat2 (by omega)
  · have := of_decide_eq_false (h3 i hi)
    omega
theorem chk_lat {b : FB} (hc : chkB b = true) {l : Int} (h : 0 ≤ l ∧ l ≤ 30) : chkB (lat b l) = true := by
  unfold chkB at hc ⊢
  simp only [Bool.and_eq_true] at hc ⊢
  exact ⟨hc.1, hc.2.1, by unfold within; exact decide_eq_true h, hc.2.2.2⟩

set_option maxRecDepth 10000 in
theorem c7 (b : FB) (l : Int) (p : Pa) : Ctr Try.prog 7 [FK b, .int l, PA p] (.bool true) := by
  refine ctr_of_wp hmix Try.func7 m7 rfl ?_
  unfold v7
  simp -failIfUnchanged (disch := first | omega | (simp <;> omega) | fail) only [go_sem, simprocAttr]
  refine wcall (c22 b) ?_
  cases hr : rdyF b with
  | false =>
    simp -failIfUnchanged (disch := first | omega | (simp <;> omega) | fail) only [go_sem, simprocAttr]
    refine wcall c15 ?_
    simp -failIfUnchanged (disch := first | omega | (simp <;> omega) | fail) only [go_sem, simprocAttr]
  | true =>
    obtain ⟨hs, hc, hv⟩ := rdy_of hr
    simp -failIfUnchanged (disch := first | omega | (simp <;> omega) | fail) only [go_sem, simprocAttr]
    refine wcall (c33 l b.late 30) ?_
    cases hw : within l b.late 30 with
    | false =>
      simp -failIfUnchanged (disch := first | omega | (simp <;> omega) | fail) only [go_sem, simprocAttr]
      refine wcall c15 ?_
      simp -failIfUnchanged (disch := first | omega | (simp <;> omega) | fail) only [go_sem, simprocAttr]
    | true =>
      have hw' : b.late ≤ l ∧ l ≤ 30 := by simpa [within] using hw
      have hla := hv.la
      obtain ⟨g1, g2, g3⟩ := lt_spec b
      have k23 := c23 b hs hc
      have k24 := c23 (lat b l) (sm_lat hs l) (chk_lat hc (by omega))
      have k25 := c23 (lat b 30) (sm_lat hs 30) (chk_lat hc (by omega))
      have k26 := c23 (lat b (ltN b : Nat)) (sm_lat hs _) (chk_lat hc (by omega))
      have k19 := c19 b hs
      have he : errF b = 0 := by unfold errF; rw [hc]; rfl
      unfold ltR at k19
      rw [he, if_pos hc] at k19
      have k34 := c34 b hs l
      have k35 := c34 b hs 30
      have k36 := c34 b hs (ltN b : Nat)
      have hle := few_late hw'.1
      have a1 := c37 b hs p.one p.other
      have a2 := c37 (lat b l) (sm_lat hs l) p.one p.other
      have a3 := c35 b p.one
      have a4 := c36 b p.other
      unfold samR at a1 a2
      have hpe : prE (lat b l) p.one p.other = askF (lat b l) (oneI b p.one && othI b p.other) := rfl
      have hpe1 : prE b p.one p.other = askF b (oneI b p.one && othI b p.other) := rfl
      have hk3 : Ctr Try.prog 33 [.int (ltN b : Nat), .int 0, .int 30] (.bool true) := by
        have := c33 (ltN b : Nat) 0 30
        rwa [show within (ltN b : Nat) 0 30 = true by unfold within; exact decide_eq_true (by omega)] at this
      have hbef : ∀ q : Nat, ltN b = q + 1 → Ctr Try.prog 34 [FK b, .int (q : Nat)] (FK (lat b (q : Nat))) ∧ Ctr Try.prog 23 [FK (lat b (q : Nat))] (.tup [.int (fewI (lat b (q : Nat))), .bool true]) ∧ fewI (lat b 30) < fewI (lat b (q : Nat)) := fun q hq =>
        ⟨c34 b hs q, c23 (lat b (q : Nat)) (sm_lat hs _) (chk_lat hc (by omega)), g3 q (by omega)⟩
      rw [g2] at k26
      generalize ltN b = K at *
      have d0 : decide (¬ (0 : Int) = 0) = false := rfl
      have d1 : decide (fewI b < fewI (lat b l)) = false := decide_eq_false (by omega)
      have d2 : decide (¬ fewI (lat b 30) = fewI (lat b 30)) = false := decide_eq_false (by simp)
      have hone : oneI b p.one = within p.one 0 (w64 ((b.ones.length : Int) - 1)) := rfl
      have hoth : othI b p.other = within p.other 0 (w64 ((b.others.length : Int) - 1)) := rfl
      obtain ⟨u, hu⟩ : ∃ u, within p.one 0 (w64 ((b.ones.length : Int) - 1)) = u := ⟨_, rfl⟩
      obtain ⟨v, hvv⟩ : ∃ v, within p.other 0 (w64 ((b.others.length : Int) - 1)) = v := ⟨_, rfl⟩
      rw [hone, hoth, hu, hvv] at hpe hpe1
      rw [hu] at a3
      rw [hvv] at a4
      unfold FK at a2 k24 k25 k26 k34 k35 k36
      simp -failIfUnchanged (disch := first | omega | (simp <;> omega) | fail) only [go_sem, simprocAttr]
      refine wcall k34 ?_
      simp -failIfUnchanged (disch := first | omega | (simp <;> omega) | fail) only [go_sem, simprocAttr]
      refine wcall k23 ?_
      simp -failIfUnchanged (disch := first | omega | (simp <;> omega) | fail) only [go_sem, simprocAttr]
      refine wcall k24 ?_
      simp -failIfUnchanged (disch := first | omega | (simp <;> omega) | fail) only [go_sem, simprocAttr]
      refine wcall k19 ?_
      simp -failIfUnchanged (disch := first | omega | (simp <;> omega) | fail) only [go_sem, simprocAttr, d0, d1]
      refine wcall hk3 ?_
      simp -failIfUnchanged (disch := first | omega | (simp <;> omega) | fail) only [go_sem, simprocAttr]
      refine wcall k35 ?_
      simp -failIfUnchanged (disch := first | omega | (simp <;> omega) | fail) only [go_sem, simprocAttr]
      refine wcall k25 ?_
      simp -failIfUnchanged (disch := first | omega | (simp <;> omega) | fail) only [go_sem, simprocAttr]
      refine wcall k36 ?_
      simp -failIfUnchanged (disch := first | omega | (simp <;> omega) | fail) only [go_sem, simprocAttr]
      refine wcall k26 ?_
      simp -failIfUnchanged (disch := first | omega | (simp <;> omega) | fail) only [go_sem, simprocAttr, d2]
      refine tailed (T := ?T) (fun tail => ?mm) ?tt
      case mm =>
        refine wcond_dec (fun h0 => ?_) (fun h0 => ?_)
        · obtain ⟨q, rfl⟩ : ∃ q, K = q + 1 := ⟨K - 1, by omega⟩
          obtain ⟨b1, b2, b3⟩ := hbef q rfl
          have e1 : (((q + 1 : Nat) : Int) - 1) = (q : Nat) := by omega
          have d3 : decide (fewI (lat b (q : Nat)) ≤ fewI (lat b 30)) = false := decide_eq_false (by omega)
          unfold FK at b1 b2
          simp -failIfUnchanged (disch := first | omega | (simp <;> omega) | fail) only [go_sem, simprocAttr, e1]
          refine wcall b1 ?_
          simp -failIfUnchanged (disch := first | omega | (simp <;> omega) | fail) only [go_sem, simprocAttr]
          refine wcall b2 ?_
          simp -failIfUnchanged (disch := first | omega | (simp <;> omega) | fail) only [go_sem, simprocAttr, d3]
          exact tail.out
        · simp -failIfUnchanged (disch := first | omega | (simp <;> omega) | fail) only [go_sem, simprocAttr]
          exact tail.out
      case tt =>
        refine wcall a3 ?_
        cases u with
        | false =>
          simp -failIfUnchanged (disch := first | omega | (simp <;> omega) | fail) only [go_sem, simprocAttr]
          refine wcall c15 ?_
          simp -failIfUnchanged (disch := first | omega | (simp <;> omega) | fail) only [go_sem, simprocAttr]
        | true =>
          simp -failIfUnchanged (disch := first | omega | (simp <;> omega) | fail) only [go_sem, simprocAttr]
          refine wcall a4 ?_
          cases v with
          | false =>
            simp -failIfUnchanged (disch := first | omega | (simp <;> omega) | fail) only [go_sem, simprocAttr]
            refine wcall c15 ?_
            simp -failIfUnchanged (disch := first | omega | (simp <;> omega) | fail) only [go_sem, simprocAttr]
          | true =>
            have e1 : prE b p.one p.other = 0 := by rw [hpe1]; exact ask_ok hc rfl
            have e2 : prE (lat b l) p.one p.other = 0 := by rw [hpe]; exact ask_ok (chk_lat hc (by omega)) rfl
            rw [e1, if_pos rfl] at a1
            rw [e2, if_pos rfl] at a2
            have h1 : comB b.late (one b p.one.toNat) (oth b p.other.toNat) = true → comB (lat b l).late (one (lat b l) p.one.toNat) (oth (lat b l) p.other.toNat) = true := com_late hw'.1
            generalize comB b.late (one b p.one.toNat) (oth b p.other.toNat) = X at *
            generalize comB (lat b l).late (one (lat b l) p.one.toNat) (oth (lat b l) p.other.toNat) = Y at *
            simp -failIfUnchanged (disch := first | omega | (simp <;> omega) | fail) only [go_sem, simprocAttr]
            refine wcall a1 ?_
            simp -failIfUnchanged (disch := first | omega | (simp <;> omega) | fail) only [go_sem, simprocAttr]
            refine wcall a2 ?_
            simp -failIfUnchanged (disch := first | omega | (simp <;> omega) | fail) only [go_sem, simprocAttr, eq_self]
            cases X with
            | false =>
              simp -failIfUnchanged (disch := first | omega | (simp <;> omega) | fail) only [go_sem, simprocAttr]
              refine wcall c15 ?_
              simp -failIfUnchanged (disch := first | omega | (simp <;> omega) | fail) only [go_sem, simprocAttr]
            | true =>
              rw [h1 rfl]
              simp -failIfUnchanged (disch := first | omega | (simp <;> omega) | fail) only [go_sem, simprocAttr]
              refine wcall c15 ?_
              simp -failIfUnchanged (disch := first | omega | (simp <;> omega) | fail) only [go_sem, simprocAttr]

end Go.Proofs.Ytemnojaoickjfaa


/- Matchings of other books: maps; the books the other way around. -/
set_option linter.unusedSimpArgs false
set_option linter.unusedVariables false
set_option linter.unnecessarySimpa false
namespace Go.Proofs.Ytemnojaoickjfaa
open Go Go.V

/-- Sums of integers over pairs. -/
def lI (F : Pa → Int) : List Pa → Int
  | [] => 0
  | p :: r => F p + lI F r
theorem lI_app (F : Pa → Int) : ∀ (l r : List Pa), lI F (l ++ r) = lI F l + lI F r
  | [], r => by simp [lI]
  | p :: l, r => by
    show F p + lI F (l ++ r) = _
    rw [lI_app F l r]
    show F p + (lI F l + lI F r) = (F p + lI F l) + lI F r
    omega
def dyF (b : FB) (p : Pa) : Int := dayI (one b p.one.toNat) (oth b p.other.toNat)
theorem dsK_eq (b : FB) (t : List Pa) : ∀ k, k ≤ t.length → dsK b t k = lI (dyF b) (t.take k)
  | 0, _ => by simp [dsK, lI]
  | k + 1, h => by
    have ih := dsK_eq b t k (by omega)
    obtain ⟨p, hp⟩ : ∃ p, t[k]?.getD default = p := ⟨_, rfl⟩
    have hts : t.take (k + 1) = t.take k ++ [p] := by
      have e2 : t[k] = p := by rw [← hp, List.getElem?_eq_getElem (by omega)]; rfl
      rw [List.take_add_one, List.getElem?_eq_getElem (by omega), e2]; rfl
    unfold dsK
    rw [hp, hts, lI_app, ← ih]
    simp [lI, dyF]
theorem ds_eq (b : FB) (t : List Pa) : dsI b t = lI (dyF b) t := by
  unfold dsI
  rw [dsK_eq b t _ (Nat.le_refl _), List.take_length]
end Go.Proofs.Ytemnojaoickjfaa


/- FinesAlike, for books that are not too long. -/
set_option linter.unusedSimpArgs false
set_option linter.unusedVariables false
set_option linter.unnecessarySimpa false
namespace Go.Proofs.Ytemnojaoickjfaa
open Go Go.V

/-- Two books alike. -/
abbrev akB (b : FB) : FB := { b with others := b.ones }
def idM (n : Nat) : List Pa := (List.range n).map fun i : Nat => ⟨(i : Int), (i : Int)⟩
theorem comL_self (x : List Sp) : comL x x = x := by
  apply List.ext_getElem?
  intro i
  unfold comL comK
  rcases Nat.lt_or_ge i x.length with h | h
  · rw [List.getElem?_map, List.getElem?_range h, List.getElem?_eq_getElem h]
    simp [cmS, h]
  · rw [List.getElem?_eq_none (by simpa using h), List.getElem?_eq_none h]
theorem dayI_self (x : En) (h : 0 ≤ x.day ∧ x.day ≤ 99) : dayI x x = 0 := by
  unfold dayI
  rw [w64_id (by omega)]
  omega
theorem gm_id {b : FB} (hv : VF (akB b)) : GM (akB b) (akB b).ones.length (idM b.ones.length) := by
  refine ⟨fun p hp => ?_, ?_, ?_⟩
  · obtain ⟨i, hi, rfl⟩ := List.mem_map.1 hp
    have hi := List.mem_range.1 hi
    refine ⟨⟨by dsimp only; omega, by dsimp only; omega⟩, ⟨by dsimp only; omega, by dsimp only; omega⟩, ?_⟩
    dsimp only
    rw [Int.toNat_natCast]
    have hve := one_v hv (i := i) hi
    show comB b.late (one (akB b) i) (one (akB b) i) = true
    have hla := hv.la
    have hla' : 0 ≤ b.late := hla.1
    unfold comB
    rw [dayI_self _ hve.d, comL_self, decide_eq_true rfl, decide_eq_true hla']
    unfold fitB
    rw [Bool.true_and, Bool.true_and, List.all_eq_true]
    exact fun s hs => decide_eq_true (hve.c.s s hs).2.1
  · unfold idM
    rw [List.pairwise_map]
    exact List.pairwise_lt_range.imp fun {i j} h => by dsimp only; omega
  · unfold idM
    rw [List.pairwise_map]
    exact List.pairwise_lt_range.imp fun {i j} h => by dsimp only; omega
theorem id_lrg {b : FB} (hv : VF (akB b)) : idM b.ones.length ∈ lrgL (akB b) ∧ (fstM (akB b)).length = b.ones.length := by
  have hl : (idM b.ones.length).length = b.ones.length := by simp [idM]
  have h1 := most_le (gm_id hv)
  have h2 := fst_ones (akB b)
  have h2' : (fstM (akB b)).length ≤ b.ones.length := h2
  exact ⟨lrg_iff.2 ⟨gm_id hv, by omega⟩, by omega⟩
theorem few_ak {b : FB} (hv : VF (akB b)) : fewI (akB b) = b.ones.length := by
  unfold fewI
  rw [(id_lrg hv).2]
  show (b.ones.length : Int) + b.ones.length - b.ones.length = _
  omega
theorem ld_ak {b : FB} (hv : VF (akB b)) : ldK (akB b) (lrgL (akB b)) (lrgL (akB b)).length = 0 := by
  obtain ⟨h1, h2⟩ := ld_le hv (id_lrg hv).1
  have h3 : dsI (akB b) (idM b.ones.length) = 0 := by
    rw [ds_eq]
    have key : ∀ n, n ≤ b.ones.length → lI (dyF (akB b)) (idM n) = 0 := by
      intro n
      induction n with
      | zero => intro _; rfl
      | succ n ih =>
        intro hn
        have e : idM (n + 1) = idM n ++ [⟨(n : Int), (n : Int)⟩] := by unfold idM; rw [List.range_succ, List.map_append]; rfl
        rw [e, lI_app, ih (by omega)]
        have hve := one_v hv (i := n) hn
        have h4 : dyF (akB b) ⟨(n : Int), (n : Int)⟩ = 0 := dayI_self _ hve.d
        simp [lI, h4]
    exact key _ (Nat.le_refl _)
  omega
theorem aln_ak {b : FB} (hv : VF (akB b)) (n : Int) : alnL (akB b) n = [] := by
  have hL : (bokL (akB b) n).length = b.ones.length := by unfold bokL; split <;> rfl
  unfold alnL alnK
  rw [hL, List.map_eq_nil_iff, List.filter_eq_nil_iff]
  intro i hi
  have hi := List.mem_range.1 hi
  unfold alnP
  rw [Bool.not_eq_true, Bool.not_eq_false', List.any_eq_true]
  refine ⟨_, (id_lrg hv).1, ?_⟩
  unfold inB
  rw [List.any_eq_true]
  refine ⟨⟨(i : Int), (i : Int)⟩, List.mem_map.2 ⟨i, List.mem_range.2 hi, rfl⟩, ?_⟩
  unfold ofP
  exact decide_eq_true (by split <;> rfl)

set_option maxRecDepth 10000 in
theorem c5s (b : FB) (hcp : Ctr Try.prog 16 [FK b] (FK b)) (hce : Ctr Try.prog 26 [ES b.ones] (ES b.ones)) : Ctr Try.prog 5 [FK b] (.bool true) := by
  refine ctr_of_wp hmix Try.func5 m5 rfl ?_
  unfold v5
  have k22 := c22 (akB b)
  cases hr : rdyF (akB b) with
  | false =>
    rw [hr] at k22
    simp -failIfUnchanged (disch := first | omega | (simp <;> omega) | fail) only [go_sem, simprocAttr]
    refine wcall hcp ?_
    simp -failIfUnchanged (disch := first | omega | (simp <;> omega) | fail) only [go_sem, simprocAttr]
    refine wcall hce ?_
    simp -failIfUnchanged (disch := first | omega | (simp <;> omega) | fail) only [go_sem, simprocAttr]
    refine wcall k22 ?_
    simp -failIfUnchanged (disch := first | omega | (simp <;> omega) | fail) only [go_sem, simprocAttr]
    refine wcall c15 ?_
    simp -failIfUnchanged (disch := first | omega | (simp <;> omega) | fail) only [go_sem, simprocAttr]
  | true =>
    obtain ⟨hs, hc, hv⟩ := rdy_of hr
    have he : errF (akB b) = 0 := by unfold errF; rw [hc]; rfl
    have k23 := c23 (akB b) hs hc
    have k17 := c17 (akB b) hs
    have k27 := c27 (akB b) hs 0
    have k28 := c27 (akB b) hs 1
    unfold alnR at k27 k28
    rw [hr] at k22
    rw [few_ak hv] at k23
    rw [he, if_pos hc, ld_ak hv] at k17
    rw [show bkE (akB b) 0 = 0 from ask_ok hc rfl, if_pos rfl, aln_ak hv] at k27
    rw [show bkE (akB b) 1 = 0 from ask_ok hc rfl, if_pos rfl, aln_ak hv] at k28
    simp -failIfUnchanged (disch := first | omega | (simp <;> omega) | fail) only [go_sem, simprocAttr]
    refine wcall hcp ?_
    simp -failIfUnchanged (disch := first | omega | (simp <;> omega) | fail) only [go_sem, simprocAttr]
    refine wcall hce ?_
    simp -failIfUnchanged (disch := first | omega | (simp <;> omega) | fail) only [go_sem, simprocAttr]
    refine wcall k22 ?_
    simp -failIfUnchanged (disch := first | omega | (simp <;> omega) | fail) only [go_sem, simprocAttr]
    refine wcall k23 ?_
    simp -failIfUnchanged (disch := first | omega | (simp <;> omega) | fail) only [go_sem, simprocAttr]
    refine wcall k17 ?_
    simp -failIfUnchanged (disch := first | omega | (simp <;> omega) | fail) only [go_sem, simprocAttr]
    refine wcall k27 ?_
    simp -failIfUnchanged (disch := first | omega | (simp <;> omega) | fail) only [go_sem, simprocAttr]
    refine wcall k28 ?_
    simp -failIfUnchanged (disch := first | omega | (simp <;> omega) | fail) only [go_sem, simprocAttr, eq_self]
    refine wcall c15 ?_
    simp -failIfUnchanged (disch := first | omega | (simp <;> omega) | fail) only [go_sem, simprocAttr]

end Go.Proofs.Ytemnojaoickjfaa


/- Arguments of whatever size: how long their lists can be. -/
set_option linter.unusedSimpArgs false
set_option linter.unusedVariables false
set_option linter.unnecessarySimpa false
namespace Go.V
open Go Go.RowKit

mutual
/-- How many bytes a value of a type takes. -/
def TC.by : TC → Nat
  | .int => 8
  | .bool => 1
  | .st l => TC.bys l
  | .sl _ => 24
def TC.bys : List TC → Nat
  | [] => 0
  | c :: r => c.by + TC.bys r
end
mutual
/-- What stands for a value of a type, whose lists are of at most R bytes. -/
def TB (R : Nat) : TC → List AV → Prop
  | .int, cs => ∃ n : Int, (-9223372036854775808 ≤ n ∧ n ≤ 9223372036854775807) ∧ cs = [.int n]
  | .bool, cs => ∃ b : Bool, cs = [.bool b]
  | .st l, cs => TBL R l cs
  | .sl e, cs => ∃ es : List (List AV), cs = [.sl e.size (es.map fun x => if e.isSt then .agg x else x[0]?.getD .und) .sh] ∧ es.length < 9223372036854775808 ∧ es.length * e.by ≤ R ∧ ∀ x ∈ es, TB R e x
def TBL (R : Nat) : List TC → List AV → Prop
  | [], cs => cs = []
  | c :: r, cs => ∃ a b, cs = a ++ b ∧ TB R c a ∧ TBL R r b
end
mutual
def tcmB (P : Program) : Nat → TypeId → TC → Bool
  | 0, _, _ => false
  | n + 1, t, tc =>
    match P.underlying t, tc with
    | some (.int .i64), .int => true
    | some .bool, .bool => true
    | some (.struct fs), .st l => tcfsB P n fs.toList l 0 && P.cellsOf t == TC.sizes l
    | some (.slice e), .sl c => tcmB P n e c && P.cellsOf e == c.size && c.size != 0 && P.bytesOf e == c.by
    | _, _ => false
def tcfsB (P : Program) : Nat → List Field → List TC → Nat → Bool
  | _, [], [], _ => true
  | 0, _, _, _ => false
  | n + 1, f :: fs, c :: l, off => f.offset == off && P.cellsOf f.type == c.size && tcmB P n f.type c && tcfsB P n fs l (off + c.size)
  | _, _, _, _ => false
end
theorem tbl_len (R : Nat) : ∀ (l : List TC) (cs : List AV), (∀ c ∈ l, ∀ cs, TB R c cs → cs.length = c.size) → TBL R l cs → cs.length = TC.sizes l
  | [], cs, _, h => by simp only [TBL] at h; subst h; rfl
  | c :: r, cs, hc, h => by
    simp only [TBL] at h
    obtain ⟨a, b, rfl, h1, h2⟩ := h
    rw [List.length_append, hc c (by simp) a h1, tbl_len R r b (fun d hd => hc d (by simp [hd])) h2, TC.sizes]
theorem tb_len (R : Nat) : ∀ (c : TC) (cs : List AV), TB R c cs → cs.length = c.size
  | .int, cs, h => by simp only [TB] at h; obtain ⟨n, _, rfl⟩ := h; rfl
  | .bool, cs, h => by simp only [TB] at h; obtain ⟨n, rfl⟩ := h; rfl
  | .sl e, cs, h => by simp only [TB] at h; obtain ⟨n, rfl, _⟩ := h; rfl
  | .st l, cs, h => by
    simp only [TB] at h
    rw [TC.size]
    exact tbl_len R l cs (fun c hc cs h => tb_len R c cs h) h

section
variable {P : Program} {H : Type} {enc : TypeId × Value → H} {w : World} {spare : Nat → Bool} {held : Bool}
theorem weightsAll_mem {e : TypeId} {d : DataW H} {z : Nat} : ∀ {ds : List (DataW H)}, d ∈ ds → z ∈ d.weights P e → z ∈ DataW.weightsAll P e ds
  | [], h, _ => by simp at h
  | x :: r, h, hz => by
    simp only [DataW.weightsAll, List.mem_append]
    rcases List.mem_cons.1 h with rfl | h
    · exact .inl hz
    · exact .inr (weightsAll_mem h hz)

/-- What is read is what it stands for. -/
theorem trod_wt (R : Nat) : ∀ (n : Nat) (g : Nat) (t : TypeId) (tc : TC) (cs : List Value) (x : DataW H × List MemPlace), tcmB P g t tc = true → DataW.trod enc P w 0 spare held n t cs = some x →
    (∀ y ∈ x.1.weights P t, y ≤ R) → ∃ avs, RepCs w cs avs ∧ TB R tc avs := by
  intro n
  induction n with
  | zero => intro g t tc cs x _ h; simp [DataW.trod] at h
  | succ n ih =>
    intro g t tc cs x hm h hwt
    cases g with
    | zero => simp [tcmB] at hm
    | succ g =>
      unfold tcmB at hm
      split at hm
      · rename_i hu
        obtain ⟨k, rfl, _, hw⟩ := DataW.trod_int hu h
        exact ⟨[.int k], repCs_one rfl (.int k), by simp only [TB]; exact ⟨k, wf_i64 hw, rfl⟩⟩
      · rename_i hu
        obtain ⟨k, rfl, _⟩ := DataW.trod_bool hu h
        exact ⟨[.bool k], repCs_one rfl (.bool k), by simp only [TB]; exact ⟨k, rfl⟩⟩
      · rename_i fs l hu
        simp only [Bool.and_eq_true, beq_iff_eq] at hm
        obtain ⟨hm1, hm2⟩ := hm
        obtain ⟨xs, n', hn, hxe, hlen, hxl, hf⟩ := DataW.trod_struct hu h
        have hn' : n' = n := by omega
        subst hn'
        have key : ∀ (fsl : List Field) (l : List TC) (g off : Nat), tcfsB P g fsl l off = true → (∀ f ∈ fsl, ∃ y, DataW.trod enc P w 0 spare held n' f.type ((cs.drop f.offset).take (P.cellsOf f.type)) = some y ∧ ∀ z ∈ y.1.weights P f.type, z ≤ R) → off + TC.sizes l ≤ cs.length →
            ∃ avs, RepCs w ((cs.drop off).take (TC.sizes l)) avs ∧ TBL R l avs := by
          intro fsl
          induction fsl with
          | nil =>
            intro l g off h1 _ _
            cases l with
            | nil => exact ⟨[], ⟨by simp [TC.sizes], fun j c hj => by simp at hj⟩, by simp only [TBL]⟩
            | cons c r => cases g <;> simp [tcfsB] at h1
          | cons f fsl ihf =>
            intro l g off h1 h2 h3
            cases l with
            | nil => cases g <;> simp [tcfsB] at h1
            | cons c r =>
              cases g with
              | zero => simp [tcfsB] at h1
              | succ g =>
                simp only [tcfsB, Bool.and_eq_true, beq_iff_eq] at h1
                obtain ⟨⟨⟨e1, e2⟩, e3⟩, e4⟩ := h1
                obtain ⟨y, hy, hyw⟩ := h2 f (by simp)
                obtain ⟨a, ha1, ha2⟩ := ih g f.type c _ y e3 hy hyw
                simp only [TC.sizes] at h3
                obtain ⟨b, hb1, hb2⟩ := ihf r g (off + c.size) e4 (fun f' hf' => h2 f' (by simp [hf'])) (by omega)
                refine ⟨a ++ b, ?_, by simp only [TBL]; exact ⟨a, b, rfl, ha2, hb2⟩⟩
                have : (cs.drop off).take (TC.sizes (c :: r)) = (cs.drop f.offset).take (P.cellsOf f.type) ++ (cs.drop (off + c.size)).take (TC.sizes r) := by
                  rw [e1, e2, TC.sizes, List.take_add, List.drop_drop]
                rw [this]
                exact repCs_append ha1 hb1
        have hall : ∀ f ∈ fs.toList, ∃ y, DataW.trod enc P w 0 spare held n' f.type ((cs.drop f.offset).take (P.cellsOf f.type)) = some y ∧ ∀ z ∈ y.1.weights P f.type, z ≤ R := by
          intro f hff
          obtain ⟨i, hi⟩ := List.getElem?_of_mem hff
          have hi' : fs[i]? = some f := by simpa using hi
          have hlt : i < xs.length := by rw [hxl]; exact (Array.getElem?_eq_some_iff.1 hi').1
          rw [hf i f hi']
          refine ⟨xs[i], by simp [hlt], fun z hz => hwt z ?_⟩
          rw [hxe]
          simp only [DataW.weights, hu]
          exact DataW.weights_mem_each (j := i) (by simp [hi]) (by simp [hlt]) z hz
        obtain ⟨avs, h1, h2⟩ := key fs.toList l g 0 hm1 hall (by omega)
        refine ⟨avs, ?_, by simp only [TB]; exact h2⟩
        rwa [List.drop_zero, List.take_of_length_le (by omega)] at h1
      · rename_i e c hu
        simp only [Bool.and_eq_true, beq_iff_eq, bne_iff_ne] at hm
        obtain ⟨⟨⟨hm1, hm2⟩, hm3⟩, hm4⟩ := hm
        rcases DataW.trod_slice hu h with ⟨rfl, _⟩ | ⟨a, len, cap, elems, rest, n', hn, rfl, hxe, hb, hl, hcap, hel, hei, _, _⟩
        · refine ⟨[.sl c.size [] .sh], repCs_one rfl (.sl0 _ _ _), ?_⟩
          simp only [TB]
          exact ⟨[], rfl, by simp, by simp, fun x hx => by simp at hx⟩
        · have hn' : n' = n := by omega
          subst hn'
          rw [hm2] at hei
          have hone : ∀ i, i < len → ∃ p : List Value × List AV, w.cells? 0 (a.add (i * c.size)) c.size = some p.1 ∧ RepCs w p.1 p.2 ∧ TB R c p.2 := by
            intro i hi
            have := hei i hi
            have hlt : i < elems.length := by omega
            rw [List.getElem?_eq_getElem hlt] at this
            obtain ⟨csi, h1, h2⟩ := Option.bind_eq_some_iff.1 this
            obtain ⟨avs, h3, h4⟩ := ih g e c csi _ hm1 h2 (fun z hz => hwt z (by
              rw [hxe]
              simp only [DataW.weights, hu]
              exact List.mem_cons_of_mem _ (List.mem_append.2 (.inl (weightsAll_mem (List.mem_map.2 ⟨_, List.getElem_mem hlt, rfl⟩) hz)))))
            exact ⟨(csi, avs), h1, h3, h4⟩
          obtain ⟨F, hF⟩ := Go.Deep.choose_lt hone
          have hlen2 : ((List.range len).map fun i => (F i).2).length = len := by simp
          have hty : TB R (.sl c) [.sl c.size (((List.range len).map fun i => (F i).2).map fun x => if c.isSt then .agg x else x[0]?.getD .und) .sh] := by
            simp only [TB]
            have hbd := hwt ((elems.length + rest.length) * P.bytesOf e) (by
              rw [hxe]
              simp [DataW.weights, hu])
            rw [hm4] at hbd
            have hbd2 : len * c.by ≤ R := Nat.le_trans (Nat.mul_le_mul_right _ (by omega)) hbd
            refine ⟨_, rfl, by rw [hlen2]; have : maxLen = 9223372036854775807 := by decide
                               omega, by rw [hlen2]; exact hbd2, fun x hx => ?_⟩
            obtain ⟨i, hi, rfl⟩ := List.mem_map.1 hx
            exact (hF i (List.mem_range.1 hi)).2.2
          refine ⟨_, repCs_one rfl ?_, hty⟩
          by_cases h0 : len = 0
          · subst h0
            exact .sl0 _ _ _
          · have hc0 := (World.cells?_some (hF 0 (by omega)).1).2.2 0 (by omega)
            have hl0 := (World.cells?_some (hF 0 (by omega)).1).2.1
            rw [List.getElem?_eq_getElem (by omega)] at hc0
            have hsp := spot_none hc0
            have hblk := cell_block hc0
            simp only [Addr.add, Nat.zero_mul, if_true] at hsp hblk
            obtain ⟨blk, o, sp⟩ := a
            simp only at hsp hblk
            subst hsp
            have hadd : ∀ o k, (⟨blk, o, none⟩ : Addr).add k = ⟨blk, o + k, none⟩ := by
              intro o k
              unfold Addr.add
              split
              · rename_i hk; subst hk; rfl
              · rfl
            have hget : ∀ (i : Nat) (e : AV), (((List.range len).map fun i => (F i).2).map fun x => if c.isSt then AV.agg x else x[0]?.getD .und)[i]? = some e → i < len ∧ e = (if c.isSt then AV.agg (F i).2 else (F i).2[0]?.getD .und) := by
              intro i e he
              have hlt := (List.getElem?_eq_some_iff.1 he).1
              simp only [List.length_map, List.length_range] at hlt
              simp only [List.getElem?_map, List.getElem?_range hlt, Option.map_some, Option.some.injEq] at he
              exact ⟨hlt, he.symm⟩
            -- an element's cells
            have hcells : ∀ i, i < len → (if c.isSt then AV.agg (F i).2 else (F i).2[0]?.getD .und).cells = (F i).2 ∧ (if c.isSt then AV.agg (F i).2 else (F i).2[0]?.getD .und).isElem = true := by
              intro i hi
              obtain ⟨_, hr, hti⟩ := hF i hi
              by_cases hs : c.isSt = true
              · rw [if_pos hs]; exact ⟨rfl, rfl⟩
              · rw [if_neg hs]
                have hsz : c.size = 1 := by cases c <;> first | rfl | (simp [TC.isSt] at hs)
                have hl1 := tb_len R c _ hti
                rw [hsz] at hl1
                match hF2 : (F i).2, hl1 with
                | [y], _ =>
                  have hy := (hr.2 0 y (by rw [hF2]; rfl)).1
                  simp only [List.getElem?_cons_zero, Option.getD_some]
                  refine ⟨?_, ?_⟩
                  · cases y <;> first | rfl | (simp [AV.isCell] at hy)
                  · cases y <;> first | rfl | (simp [AV.isCell] at hy)
            have hFl : ∀ i, i < len → (F i).2.length = c.size := fun i hi => tb_len R c _ (hF i hi).2.2
            refine .sl blk o len cap c.size _ (fun i j => ((F i).1[j]?.getD undef)) (by simp) hl ?_ ?_ ?_ ?_ ?_ ?_
            · intro i e he
              obtain ⟨hi, rfl⟩ := hget i e he
              rw [(hcells i hi).1]; exact hFl i hi
            · intro i e he
              obtain ⟨hi, rfl⟩ := hget i e he
              exact (hcells i hi).2
            · intro i j _ _
              exact hblk
            · intro i j hi hj
              have hi : i < len := by simpa using hi
              have hc := (World.cells?_some (hF i hi).1).2.2 j hj
              have hl2 := (World.cells?_some (hF i hi).1).2.1
              rw [hadd, hadd, List.getElem?_eq_getElem (by omega)] at hc
              rw [hc]
              simp [show j < (F i).1.length by omega]
            · intro i e he j d hj
              obtain ⟨hi, rfl⟩ := hget i e he
              rw [(hcells i hi).1] at hj
              exact ((hF i hi).2.1.2 j d hj).1
            · intro i e he j d hj
              obtain ⟨hi, rfl⟩ := hget i e he
              rw [(hcells i hi).1] at hj
              exact ((hF i hi).2.1.2 j d hj).2
      · simp at hm

/-- A value of a type. -/
def TVB (R : Nat) : TC → AV → Prop
  | .st l, av => ∃ cs, av = .agg cs ∧ TBL R l cs
  | c, av => TB R c [av]

theorem trod_valB (R : Nat) {t : TypeId} {tc : TC} {v : Value} {d : DataW H} {p : List MemPlace} {r : Reach} {b0 g : Nat} (hm : tcmB P g t tc = true) (hwt : ∀ y ∈ d.weights P t, y ≤ R) (hok : Value.okWide P w r b0 t v) (h : DataW.Trod enc P w 0 spare held t v d p) :
    ∃ av, Rep0 (CAll w) w v av ∧ TVB R tc av := by
  obtain ⟨n, h⟩ := h
  obtain ⟨avs, h1, h2⟩ := trod_wt R n g t tc _ _ hm h hwt
  have one : v.cells = #[v] → tc.isSt = false → ∃ av, Rep0 (CAll w) w v av ∧ TVB R tc av := by
    intro hv hs
    rw [hv] at h1
    have hl := h1.1
    match avs, hl with
    | [c], _ =>
      have := (h1.2 0 c rfl).2
      refine ⟨c, by simpa using this, ?_⟩
      cases tc <;> first | exact h2 | (simp [TC.isSt] at hs)
  cases tc with
  | st l =>
    cases g with
    | zero => simp [tcmB] at hm
    | succ g =>
      unfold tcmB at hm
      split at hm <;> first | (simp at hm; done) | skip
      all_goals (rename_i heq; first | (cases heq; done) | skip)
      rename_i fs l' hu
      unfold Value.okWide at hok
      rw [hu] at hok
      obtain ⟨cs, rfl, _, _⟩ := hok
      simp only [TB] at h2
      refine ⟨.agg avs, .agg cs avs ?_ (fun j c hj => (h1.2 j c hj).1) (fun j c hj => ?_), ⟨avs, rfl, h2⟩⟩
      · have := h1.1; simpa [Value.cells] using this.symm
      · simpa [Value.cells] using (h1.2 j c hj).2
  | _ =>
    refine one ?_ rfl
    cases v <;> first | rfl | skip
    exfalso
    cases g with
    | zero => simp [tcmB] at hm
    | succ g =>
      unfold tcmB at hm
      unfold Value.okWide at hok
      split at hm <;> first | (simp at hm; done) | skip
      all_goals (rename_i hu heq; first | (cases heq; done) | (simp [hu, Cell.okWide, Cell.ok] at hok; done))


end
end Go.V

namespace Go.Proofs.Ytemnojaoickjfaa
open Go Go.V

/-- Lists of at most so many bytes. -/
structure BigE (R : Nat) (l : List En) : Prop where
  n : l.length * 40 ≤ R
  c : ∀ e ∈ l, e.cord.length * 16 ≤ R
theorem tb_two {R : Nat} {cs : List AV} (h : TBL R [.int, .int] cs) : ∃ a c : Int, cs = [.int a, .int c] := by
  simp only [TBL] at h
  obtain ⟨a, x, rfl, ha, b, y, rfl, hb, rfl⟩ := h
  rw [TB] at ha hb
  obtain ⟨n, _, rfl⟩ := ha
  obtain ⟨m, _, rfl⟩ := hb
  exact ⟨n, m, rfl⟩
theorem tb_sps {R : Nat} {cs : List AV} (h : TB R (.sl tcS) cs) : ∃ l : List Sp, cs = [SS l] ∧ l.length * 16 ≤ R := by
  rw [TB] at h
  obtain ⟨es, rfl, h1, hb, h2⟩ := h
  obtain ⟨l, h3, h4, _⟩ := map_choose (F := fun x => if TC.isSt tcS then AV.agg x else x[0]?.getD .und) (G := SP) (Q := fun _ => True) es (fun x hx => by
    have := h2 x hx
    rw [TB] at this
    obtain ⟨a, c, rfl⟩ := tb_two this
    exact ⟨⟨a, c⟩, rfl, trivial⟩)
  refine ⟨l, ?_, ?_⟩
  · rw [h3]; rfl
  · rw [h4]; exact hb
theorem tb_es {R : Nat} {cs : List AV} (h : TB R (.sl tcE) cs) : ∃ l : List En, cs = [ES l] ∧ BigE R l := by
  rw [TB] at h
  obtain ⟨es, rfl, h1, hb, h2⟩ := h
  obtain ⟨l, h3, h4, h5⟩ := map_choose (F := fun x => if TC.isSt tcE then AV.agg x else x[0]?.getD .und) (G := EN) (Q := fun e => e.cord.length * 16 ≤ R) es (fun x hx => by
    have := h2 x hx
    rw [TB] at this
    simp only [TBL] at this
    obtain ⟨a, r, rfl, ha, b, r2, rfl, hb, c, r3, rfl, hc, rfl⟩ := this
    rw [TB] at ha hb
    obtain ⟨n, _, rfl⟩ := ha
    obtain ⟨m, _, rfl⟩ := hb
    obtain ⟨k, rfl, hk⟩ := tb_sps hc
    exact ⟨⟨n, m, k⟩, rfl, hk⟩)
  refine ⟨l, ?_, ?_, h5⟩
  · rw [h3]; rfl
  · rw [h4]; exact hb
theorem tb_fk {R : Nat} {av : AV} (h : TVB R tcF av) : ∃ b : FB, av = FK b ∧ BigE R b.ones ∧ BigE R b.others := by
  obtain ⟨cs, rfl, h⟩ := h
  simp only [TBL] at h
  obtain ⟨a, x, rfl, ha, b, y, rfl, hb, c, z, rfl, hc, d, u, rfl, hd, e, v, rfl, he, f, w, rfl, hf, rfl⟩ := h
  rw [TB] at ha hb hc hd
  obtain ⟨n, _, rfl⟩ := ha
  obtain ⟨m, _, rfl⟩ := hb
  obtain ⟨k, _, rfl⟩ := hc
  obtain ⟨j, _, rfl⟩ := hd
  obtain ⟨l1, rfl, h1⟩ := tb_es he
  obtain ⟨l2, rfl, h2⟩ := tb_es hf
  exact ⟨⟨n, m, k, j, l1, l2⟩, rfl, h1, h2⟩

end Go.Proofs.Ytemnojaoickjfaa


/- FinesAlike, for books of whatever size. -/
set_option linter.unusedSimpArgs false
set_option linter.unusedVariables false
set_option linter.unnecessarySimpa false
namespace Go.Proofs.Ytemnojaoickjfaa
open Go Go.V

theorem c26B (l : List En) (hs : BigE 140737488355328 l) : Ctr Try.prog 26 [ES l] (ES l) := by
  refine ctr_of_wp hmix Try.func26 m26f rfl ?_
  unfold v26f
  have hn := hs.n
  simp -failIfUnchanged (disch := first | omega | (simp <;> omega) | fail) only [go_sem, simprocAttr]
  refine wp_loop' Nat (fun i => ⟨[(0, ES l), (3, .sl 3 ((l.take i).map EN) (.own 3)), (4, .int i)], [], [(3, i)], none⟩) (fun i => i ≤ l.length) (fun i => l.length - i) 0 (by simp) (by simp -failIfUnchanged (disch := first | omega | (simp <;> omega) | fail) only [go_sem, simprocAttr]; try simp) ?_
  intro i hi
  have hi : i ≤ l.length := hi
  simp -failIfUnchanged (disch := first | omega | (simp <;> omega) | fail) only [go_sem, simprocAttr]
  refine wcond_dec (fun h => ?_) (fun h => ?_)
  · have hlt : i < l.length := by omega
    obtain ⟨e, he⟩ : ∃ e, l[i]?.getD default = e := ⟨_, rfl⟩
    have hc := hs.c e (by rw [← he]; exact mem_getD hlt)
    have hli : (l.take i).length = i := by simp; omega
    have hts : l.take (i + 1) = l.take i ++ [e] := by
      have e2 : l[i] = e := by rw [← he, List.getElem?_eq_getElem hlt]; rfl
      rw [List.take_add_one, List.getElem?_eq_getElem hlt, e2]; rfl
    generalize l.take i = K at *
    have f1 : fits (([] : List AV).length + (e.cord.map SP).length) 16 := ⟨by simp; omega, .inr (by simp; omega)⟩
    have f2 : fits ((K.map EN).length + [EN e].length) 40 := ⟨by simp; omega, .inr (by simp; omega)⟩
    simp -failIfUnchanged (disch := first | omega | (simp <;> omega) | fail) only [go_sem, simprocAttr, he, wapp_fullB (es := []) (fs := e.cord.map SP) f1, wapp_ownB (es := K.map EN) (fs := [EN e]) f2]
    refine ⟨hli.symm, i + 1, by dsimp only; omega, by dsimp only; omega, ?_⟩
    dsimp only
    rw [hts]
    simp -failIfUnchanged (disch := first | omega | (simp <;> omega) | fail) only [go_sem, simprocAttr]
    simp [hli]
  · have e : i = l.length := by omega
    subst e
    rw [List.take_length]
    simp -failIfUnchanged (disch := first | omega | (simp <;> omega) | fail) only [go_sem, simprocAttr]
    try simp

theorem c16B (b : FB) (h1 : BigE 140737488355328 b.ones) (h2 : BigE 140737488355328 b.others) : Ctr Try.prog 16 [FK b] (FK b) := by
  refine ctr_of_wp hmix Try.func16 m16 rfl ?_
  unfold v16
  simp -failIfUnchanged (disch := first | omega | (simp <;> omega) | fail) only [go_sem, simprocAttr]
  refine wcall (c26B _ h1) ?_
  simp -failIfUnchanged (disch := first | omega | (simp <;> omega) | fail) only [go_sem, simprocAttr]
  refine wcall (c26B _ h2) ?_
  simp -failIfUnchanged (disch := first | omega | (simp <;> omega) | fail) only [go_sem, simprocAttr]
  try simp

theorem c5 (b : FB) (h1 : BigE 140737488355328 b.ones) (h2 : BigE 140737488355328 b.others) : Ctr Try.prog 5 [FK b] (.bool true) :=
  c5s b (c16B b h1 h2) (c26B _ h1)

end Go.Proofs.Ytemnojaoickjfaa

