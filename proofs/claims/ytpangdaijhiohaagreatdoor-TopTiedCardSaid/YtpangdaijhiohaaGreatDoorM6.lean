/- Merged by program: T421, T422, T423, T424, T425, T426, T428, T429, T430, T431, T432, T433, T434, T434b, T435, T436, T437, T438, T439, T440, T441, T442, T443, T444, T445, T446, T447, T448, T449, T450, T451a, T452, T453, T454, T455, T456, T458, T459, T460, T461, T462, T463, T464, T465, T501, T502, T503, T504, T505, T506, T507, T508. -/
import Derived.Test.YtpangdaijhiohaaGreatDoorM5
import Derived.ProofKit
import Derived.Test.YtpangdaijhiohaaGreatDoorChecked
import Derived.Test.YtpangdaijhiohaaGreatDoorRows
import Derived.Deep.Strs
import Derived.LaidMore
import Derived.OpenShut
set_option linter.unusedSimpArgs false
set_option linter.unusedVariables false
set_option linter.unnecessarySimpa false
namespace Go.Proofs.YtpangdaijhiohaaGreatDoor.Kn
open Go Go.V
theorem c65 (s : Sp) : Ctr Tryz.prog 65 [SP s] (.int s.lo) := by
 refine ctr_of_wp hmix Tryz.func65 m65 rfl ?_
 unfold v65
 simp -failIfUnchanged (disch := first|omega|(simp [wcs_len]<;>omega)|fail) only [go_sem,simprocAttr]
theorem c66 (s : Sp) : Ctr Tryz.prog 66 [SP s] (.int s.hi) := by
 refine ctr_of_wp hmix Tryz.func66 m66 rfl ?_
 unfold v66
 simp -failIfUnchanged (disch := first|omega|(simp [wcs_len]<;>omega)|fail) only [go_sem,simprocAttr]
theorem spanD_bound (b : Bk) (hb : 2 ≤ b.base) (may : Nat → Nat → Nat → Bool) (carry : Nat → Nat → Bool) (cord place : Nat) : ∀ m, m ≤ b.base.toNat →
  0 ≤ (spanD b may carry cord place m).lo ∧ (spanD b may carry cord place m).lo ≤ b.base ∧ 0 ≤ (spanD b may carry cord place m).hi ∧ (spanD b may carry cord place m).hi ≤ b.base
 | 0, _ => by simp [spanD]; omega
 | m + 1, h => by
  have ih := spanD_bound b hb may carry cord place m (by omega)
  have e : spanD b may carry cord place (m + 1) = if 0 < manyD b may carry cord place m then ⟨min (spanD b may carry cord place m).lo m, max (spanD b may carry cord place m).hi m⟩ else spanD b may carry cord place m := by
   unfold spanD
   rw [List.range_succ, List.foldl_append]
   rfl
  rw [e]
  split
  ·dsimp only; omega
  ·exact ih
def endF (b : Bk) (carry : Nat → Nat → Bool) (cord : Nat) (sel : Sp → Int) : Nat → Nat → (Nat → Nat → Nat → Bool) → Int → Int
 | _, 0, _, n => n
 | p, k + 1, may, n => endF b carry cord sel (p + 1) k (onlyF may cord p (sel (spanD b may carry cord p b.base.toNat)).toNat) (numL b.base [n, sel (spanD b may carry cord p b.base.toNat)])
theorem c61 (b : Bk) (hv : Val b) (g g2 : Nat) (caps caps2 : List AV) (may : Nat → Nat → Nat → Bool) (carry : Nat → Nat → Bool)
  (hmay : ∀ c p d : Nat, c ≤ b.cords.length → p < b.places.toNat → d < b.base.toNat → Ctr Tryz.prog g ([.int c, .int p, .int d] ++ caps) (.bool (may c p d)))
  (hcarry : ∀ p n : Nat, p < b.places.toNat → n ≤ 50 → Ctr Tryz.prog g2 ([.int p, .int n] ++ caps2) (.bool (carry p n))) (cord : Nat)
  (gs : Nat) (sel : Sp → Int) (hsel : ∀ s : Sp, Ctr Tryz.prog gs [SP s] (.int (sel s))) (hsel2 : ∀ s : Sp, sel s = s.lo ∨ sel s = s.hi) :
  Ctr Tryz.prog 61 [.clo gs [] [], .ref 6 [LM b (.clo g [] caps) (.clo g2 [] caps2)] 0 0, .ref 4 [KB b] 0 0, .ref 1 [.agg [.int cord]] 0 0] (.int (endF b carry cord sel 0 b.places.toNat may 0)) := by
 refine ctr_of_wp hmix Tryz.func61 m61 rfl ?_
 unfold v61
 obtain ⟨hb1, hb2⟩ := hv.hb
 obtain ⟨hp1, hp2⟩ := hv.hp
 obtain ⟨PL, hPL⟩ : ∃ p : Nat, b.places = p := ⟨b.places.toNat, by omega⟩
 have hPn : b.places.toNat = PL := by omega
 simp -failIfUnchanged (disch := first|omega|(simp [wcs_len]<;>omega)|fail) only [go_sem,simprocAttr]
 refine wp_loop' (Nat × Nat × List AV × (Nat → Nat → Nat → Bool) × Int) (fun x => ⟨[(0, .clo gs [] []), (2, .ref 4 [KB b] 0 0), (3, .ref 1 [.agg [.int cord]] 0 0), (6, .int x.2.2.2.2), (7, .ptr 7 0), (12, .int b.places), (13, .int x.1)],
  [(7, ⟨[.int b.base, .int b.places, .sl 1 (b.cords.map SS) .sh, SS b.top, .clo x.2.1 [] x.2.2.1, .clo g2 [] caps2], false⟩)], [], none⟩)
  (fun x => x.1 ≤ PL ∧ (∀ c p d : Nat, c ≤ b.cords.length → p < b.places.toNat → d < b.base.toNat → Ctr Tryz.prog x.2.1 ([.int c, .int p, .int d] ++ x.2.2.1) (.bool (x.2.2.2.1 c p d))) ∧ endF b carry cord sel x.1 (PL - x.1) x.2.2.2.1 x.2.2.2.2 = endF b carry cord sel 0 PL may 0)
  (fun x => PL - x.1) (0, g, caps, may, 0) ⟨by simp, hmay, by simp⟩ (by simp -failIfUnchanged (disch := first|omega|(simp [wcs_len]<;>omega)|fail) only [go_sem,simprocAttr]; try simp) ?_
 rintro ⟨p, g', caps', may', n⟩ ⟨hp, hm, he⟩
 dsimp only at hp hm he ⊢
 simp -failIfUnchanged (disch := first|omega|(simp [wcs_len]<;>omega)|fail) only [go_sem,simprocAttr]
 refine wcond_dec (fun h => ?_) (fun h => ?_)
 ·simp -failIfUnchanged (disch := first|omega|(simp [wcs_len]<;>omega)|fail) only [go_sem,simprocAttr]
  have hlt : p < PL := by omega
  refine wcall (c62 b hv g' g2 caps' caps2 may' carry hm hcarry cord p) ?_
  simp -failIfUnchanged (disch := first|omega|(simp [wcs_len]<;>omega)|fail) only [go_sem,simprocAttr]
  refine wcall (hsel _) ?_
  simp -failIfUnchanged (disch := first|omega|(simp [wcs_len]<;>omega)|fail) only [go_sem,simprocAttr]
  have hbd := spanD_bound b hb1 may' carry cord p b.base.toNat (Nat.le_refl _)
  obtain ⟨d, hd⟩ : ∃ d : Nat, sel (spanD b may' carry cord p b.base.toNat) = d := ⟨(sel (spanD b may' carry cord p b.base.toNat)).toNat, by
   rcases hsel2 (spanD b may' carry cord p b.base.toNat) with e | e <;> omega⟩
  rw [hd]
  refine wcall (c63 b.base [n, d] (by simp)) ?_
  simp -failIfUnchanged (disch := first|omega|(simp [wcs_len]<;>omega)|fail) only [go_sem,simprocAttr]
  refine wcall (c64 b g' g2 caps' caps2 cord p d) ?_
  simp -failIfUnchanged (disch := first|omega|(simp [wcs_len]<;>omega)|fail) only [go_sem,simprocAttr]
  refine ⟨(p + 1, 109, capsO g' caps' cord p d, onlyF may' cord p d, numL b.base [n, d]), ⟨by dsimp only; omega, fun c q d' h1 h2 h3 => c109 g' caps' may' cord p d c q d' (hm c q d' h1 h2 h3), ?_⟩, by dsimp only; omega, ?_⟩
  ·dsimp only
   rw [← he, show PL - p = (PL - (p + 1)) + 1 by omega]
   simp only [endF, hd, Int.toNat_natCast]
  ·simp -failIfUnchanged (disch := first|omega|(simp [wcs_len]<;>omega)|fail) only [go_sem,simprocAttr]
   simp
 ·simp -failIfUnchanged (disch := first|omega|(simp [wcs_len]<;>omega)|fail) only [go_sem,simprocAttr]
  have e : p = PL := by omega
  rw [hPn, ← he, e, Nat.sub_self]
  rfl
def sureD (b : Bk) (cord : Nat) : Sp := ⟨endF b yes2 cord (fun s => s.lo) 0 b.places.toNat yes3 0, endF b yes2 cord (fun s => s.hi) 0 b.places.toNat yes3 0⟩
theorem c16 (b : Bk) (hs : Small b) (c : Int) : Ctr Tryz.prog 16 [KB b, .int c]
  (ansR b (within c 0 b.cords.length) (SP ⟨0, 0⟩) (SP (sureD b c.toNat))) := by
 refine ctr_of_wp hmix Tryz.func16 m16 rfl ?_
 unfold v16 ansR
 simp -failIfUnchanged (disch := first|omega|(simp [wcs_len]<;>omega)|fail) only [go_sem,simprocAttr]
 refine wcall (c49 b c) ?_
 simp -failIfUnchanged (disch := first|omega|(simp [wcs_len]<;>omega)|fail) only [go_sem,simprocAttr]
 refine wcall (c60g b hs _) ?_
 unfold knownR
 cases hc : checkB b with
 | false => simp -failIfUnchanged (disch := first|omega|(simp [wcs_len]<;>omega)|fail) only [go_sem,simprocAttr]
 | true =>
  cases h1 : within c 0 b.cords.length with
  | false => simp -failIfUnchanged (disch := first|omega|(simp [wcs_len]<;>omega)|fail) only [go_sem,simprocAttr]
  | true =>
   have hv := val_of_check hc
   have h1' : 0 ≤ c ∧ c ≤ b.cords.length := by simpa [within] using h1
   by_cases hz : (solveL b yes3 yes2).r = 0
   ·simp -failIfUnchanged (disch := first|omega|(simp [wcs_len]<;>omega)|fail) only [go_sem,simprocAttr, hz]
   ·simp -failIfUnchanged (disch := first|omega|(simp [wcs_len]<;>omega)|fail) only [go_sem,simprocAttr, hz]
    obtain ⟨cn, rfl⟩ : ∃ m : Nat, c = m := ⟨c.toNat, by omega⟩
    refine wcall (c61 b hv 117 118 [] [] yes3 yes2 (fun c p d _ _ _ => c117 c p d) (fun p n _ _ => c118 p n) cn 65 (fun s => s.lo) c65 (fun s => .inl rfl)) ?_
    simp -failIfUnchanged (disch := first|omega|(simp [wcs_len]<;>omega)|fail) only [go_sem,simprocAttr]
    refine wcall (c61 b hv 117 118 [] [] yes3 yes2 (fun c p d _ _ _ => c117 c p d) (fun p n _ _ => c118 p n) cn 66 (fun s => s.hi) c66 (fun s => .inr rfl)) ?_
    simp -failIfUnchanged (disch := first|omega|(simp [wcs_len]<;>omega)|fail) only [go_sem,simprocAttr]
    simp [sureD]
end Go.Proofs.YtpangdaijhiohaaGreatDoor.Kn

set_option linter.unusedSimpArgs false
set_option linter.unusedVariables false
set_option linter.unnecessarySimpa false
namespace Go.Proofs.YtpangdaijhiohaaGreatDoor.Kn
open Go Go.V
def carryF (place n p m : Nat) : Bool := decide (¬ p = place) || decide (m = n)
abbrev capsC (place n : Nat) : List AV := [.ref 1 [.agg [.int place]] 0 0, .ref 1 [.agg [.int n]] 0 0]
theorem c87 (place n p m : Nat) : Ctr Tryz.prog 87 ([.int p, .int m] ++ capsC place n) (.bool (carryF place n p m)) := by
 refine ctr_of_wp hmix Tryz.func87 m87 rfl ?_
 unfold v87
 simp -failIfUnchanged (disch := first|omega|(simp [wcs_len]<;>omega)|fail) only [go_sem,simprocAttr]
 refine WGd_bool (fun h => ?_) (fun h => ?_)
 ·simp -failIfUnchanged (disch := first|omega|(simp [wcs_len]<;>omega)|fail) only [go_sem,simprocAttr, h]
  simp only [Bool.not_eq_false', decide_eq_false_iff_not, Decidable.not_not] at h
  have e : p = place := by first | omega | (simp at h; omega)
  have e2 : ((m : Int) = (n : Int)) ↔ m = n := by omega
  simp [carryF, e, e2]
 ·simp -failIfUnchanged (disch := first|omega|(simp [wcs_len]<;>omega)|fail) only [go_sem,simprocAttr, h]
  have e : ¬ p = place := by first | omega | (simp at h; omega)
  simp [carryF, e]
def carryD (b : Bk) (place : Nat) (k : Nat) : Sp :=
 (List.range k).foldl (fun s n => if 0 < (solveL b yes3 (carryF place n)).r then ⟨min s.lo n, n⟩ else s) ⟨51, 0⟩
theorem c37 (b : Bk) (hs : Small b) (p : Int) : Ctr Tryz.prog 37 [KB b, .int p]
  (ansR b (within p 0 (w64 (b.places - 1))) (SP ⟨0, 0⟩) (SP (carryD b p.toNat 51))) := by
 refine ctr_of_wp hmix Tryz.func37 m37 rfl ?_
 unfold v37 ansR
 simp -failIfUnchanged (disch := first|omega|(simp [wcs_len]<;>omega)|fail) only [go_sem,simprocAttr]
 refine wcall (c86 b p) ?_
 simp -failIfUnchanged (disch := first|omega|(simp [wcs_len]<;>omega)|fail) only [go_sem,simprocAttr]
 refine wcall (c60g b hs _) ?_
 unfold knownR
 cases hc : checkB b with
 | false => simp -failIfUnchanged (disch := first|omega|(simp [wcs_len]<;>omega)|fail) only [go_sem,simprocAttr]
 | true =>
  cases h1 : within p 0 (w64 (b.places - 1)) with
  | false => simp -failIfUnchanged (disch := first|omega|(simp [wcs_len]<;>omega)|fail) only [go_sem,simprocAttr]
  | true =>
   have hv := val_of_check hc
   have hpl := hv.hp
   rw [w64_id (by omega)] at h1
   have h1' : 0 ≤ p ∧ p ≤ b.places - 1 := by simpa [within] using h1
   by_cases hz : (solveL b yes3 yes2).r = 0
   ·simp -failIfUnchanged (disch := first|omega|(simp [wcs_len]<;>omega)|fail) only [go_sem,simprocAttr, hz]
   ·simp -failIfUnchanged (disch := first|omega|(simp [wcs_len]<;>omega)|fail) only [go_sem,simprocAttr, hz]
    obtain ⟨q, rfl⟩ : ∃ m : Nat, p = m := ⟨p.toNat, by omega⟩
    refine wp_loopF [3] (Nat × Sp × AV) (fun x => ⟨[(3, .ptr 3 0), (4, .ptr 4 0), (6, .ptr 6 0), (8, .ptr 8 0), (23, .int x.1)],
     [(3, ⟨[.int q], true⟩), (4, ⟨[.int 0, .int 0], false⟩), (6, ⟨[.int b.base, .int b.places, .sl 1 (b.cords.map SS) .sh, SS b.top, .clo 117 [] [], x.2.2], false⟩), (8, ⟨[.int x.2.1.lo, .int x.2.1.hi], false⟩)], [], none⟩)
     (fun x => x.1 ≤ 51 ∧ x.2.1 = carryD b q x.1 ∧ ∃ g caps, x.2.2 = .clo g [] caps) (fun x => 51 - x.1) (0, carryD b q 0, .clo 118 [] []) ⟨by simp, rfl, _, _, rfl⟩ (by simp -failIfUnchanged (disch := first|omega|(simp [wcs_len]<;>omega)|fail) only [go_sem,simprocAttr]; try simp [carryD]) ?_
    rintro ⟨n, s, cl⟩ ⟨hn, hs', g, caps, hcl⟩
    dsimp only at hn hs' hcl ⊢
    subst hcl
    have hsucc : carryD b q (n + 1) = if 0 < (solveL b yes3 (carryF q n)).r then ⟨min s.lo n, n⟩ else s := by
     rw [hs', carryD, List.range_succ, List.foldl_append]
     rfl
    simp -failIfUnchanged (disch := first|omega|(simp [wcs_len]<;>omega)|fail) only [go_sem,simprocAttr]
    refine wcond_dec (fun h => ?_) (fun h => ?_)
    ·simp -failIfUnchanged (disch := first|omega|(simp [wcs_len]<;>omega)|fail) only [go_sem,simprocAttr]
     refine wcall (c73 b hv 117 87 [] (capsC q n) yes3 (carryF q n) (fun c p d _ _ _ => c117 c p d) (fun p m _ _ => c87 q n p m)) ?_
     simp -failIfUnchanged (disch := first|omega|(simp [wcs_len]<;>omega)|fail) only [go_sem,simprocAttr]
     refine wcond_dec (fun h2 => ?_) (fun h2 => ?_)
     ·simp -failIfUnchanged (disch := first|omega|(simp [wcs_len]<;>omega)|fail) only [go_sem,simprocAttr]
      refine ⟨(n + 1, ⟨min s.lo n, n⟩, .clo 87 [] (capsC q n)), ⟨by dsimp only; omega, by rw [hsucc, if_pos h2], _, _, rfl⟩, by dsimp only; omega, ?_⟩
      simp -failIfUnchanged (disch := first|omega|(simp [wcs_len]<;>omega)|fail) only [go_sem,simprocAttr]
      try simp
     ·simp -failIfUnchanged (disch := first|omega|(simp [wcs_len]<;>omega)|fail) only [go_sem,simprocAttr]
      refine ⟨(n + 1, s, .clo 87 [] (capsC q n)), ⟨by dsimp only; omega, by rw [hsucc, if_neg h2], _, _, rfl⟩, by dsimp only; omega, ?_⟩
      simp -failIfUnchanged (disch := first|omega|(simp [wcs_len]<;>omega)|fail) only [go_sem,simprocAttr]
      try simp
    ·simp -failIfUnchanged (disch := first|omega|(simp [wcs_len]<;>omega)|fail) only [go_sem,simprocAttr]
     have e : n = 51 := by omega
     rw [hs', e]
end Go.Proofs.YtpangdaijhiohaaGreatDoor.Kn

set_option linter.unusedSimpArgs false
set_option linter.unusedVariables false
set_option linter.unnecessarySimpa false
namespace Go.Proofs.YtpangdaijhiohaaGreatDoor.Kn
open Go Go.V
structure As3 where
 c : Int
 p : Int
 w : Int
end Go.Proofs.YtpangdaijhiohaaGreatDoor.Kn

set_option linter.unusedSimpArgs false
set_option linter.unusedVariables false
set_option linter.unnecessarySimpa false
namespace Go.Proofs.YtpangdaijhiohaaGreatDoor.Kn
open Go Go.V
def mostT (b : Bk) (k : Nat) : Int := (List.range k).foldl (fun m _ => w64 (m * min 10 (max 1 b.base))) 1
theorem mostT_succ (b : Bk) (k : Nat) : mostT b (k + 1) = w64 (mostT b k * min 10 (max 1 b.base)) := by
 unfold mostT
 rw [List.range_succ, List.foldl_append]
 rfl
theorem mostT_eq {b : Bk} (hb : 2 ≤ b.base ∧ b.base ≤ 10) : ∀ k, k ≤ 4 → mostT b k = ((b.base.toNat ^ k : Nat) : Int) ∧ b.base.toNat ^ k ≤ 10 ^ k
 | 0, _ => by simp [mostT]
 | k + 1, h => by
  obtain ⟨ih1, ih2⟩ := mostT_eq hb k (by omega)
  have hk : (10 : Nat) ^ k ≤ 1000 := by
   have : k = 0 ∨ k = 1 ∨ k = 2 ∨ k = 3 := by omega
   rcases this with rfl | rfl | rfl | rfl <;> decide
  have e : min 10 (max 1 b.base) = ((b.base.toNat : Nat) : Int) := by omega
  have hB : b.base.toNat ≤ 10 := by omega
  have h3 : b.base.toNat ^ k * b.base.toNat ≤ 10 ^ k * 10 := Nat.mul_le_mul ih2 hB
  refine ⟨?_, by rw [Nat.pow_succ, Nat.pow_succ]; exact h3⟩
  rw [mostT_succ, ih1, e, ← Int.natCast_mul, ← Nat.pow_succ, w64_id]
  rw [← Nat.pow_succ] at h3
  omega
theorem c33t (b : Bk) (hs : Small b) (n : Int) : Ctr Tryz.prog 33 [KB b, .int n]
  (if checkB b then
   if within n 0 (w64 (mostT b (min 4 (max 0 b.places)).toNat - 1)) then .tup [.sl 1 ((tieN b.base.toNat b.places.toNat n.toNat).map .int) .sh, .int 0] else .tup [.sl 1 [] .sh, .int 1]
  else .tup [.sl 1 [] .sh, .int 110]) := by
 refine ctr_of_wp hmix Tryz.func33 m33 rfl ?_
 unfold v33
 simp -failIfUnchanged (disch := first|omega|(simp [wcs_len]<;>omega)|fail) only [go_sem,simprocAttr]
 obtain ⟨K, hK⟩ : ∃ K : Nat, min 4 (max 0 b.places) = K := ⟨(min 4 (max 0 b.places)).toNat, by omega⟩
 rw [hK, Int.toNat_natCast]
 refine wp_loop' (Nat × Int) (fun x => ⟨[(2, .ptr 2 0), (3, .ptr 3 0), (6, .int x.2), (13, .int K), (14, .int x.1)],
  [(3, ⟨[.int n], false⟩), (2, ⟨[.int b.base, .int b.places, .sl 1 (b.cords.map SS) .sh, SS b.top], false⟩)], [], none⟩) (fun x => x.1 ≤ K ∧ x.2 = mostT b x.1) (fun x => K - x.1) (0, mostT b 0) ⟨by simp, rfl⟩ (by simp -failIfUnchanged (disch := first|omega|(simp [wcs_len]<;>omega)|fail) only [go_sem,simprocAttr]; try simp [mostT]) ?_
 rintro ⟨i, m⟩ ⟨hi, hm⟩
 dsimp only at hi hm ⊢
 simp -failIfUnchanged (disch := first|omega|(simp [wcs_len]<;>omega)|fail) only [go_sem,simprocAttr]
 refine wcond_dec (fun h => ?_) (fun h => ?_)
 ·simp -failIfUnchanged (disch := first|omega|(simp [wcs_len]<;>omega)|fail) only [go_sem,simprocAttr]
  refine ⟨(i + 1, mostT b (i + 1)), ⟨by dsimp only; omega, rfl⟩, by dsimp only; omega, ?_⟩
  rw [mostT_succ, ← hm]
  simp -failIfUnchanged (disch := first|omega|(simp [wcs_len]<;>omega)|fail) only [go_sem,simprocAttr]
  try simp
 ·have ei : i = K := by omega
  subst ei
  rw [hm]
  simp -failIfUnchanged (disch := first|omega|(simp [wcs_len]<;>omega)|fail) only [go_sem,simprocAttr]
  refine wcall (c83 _ _ _) ?_
  simp -failIfUnchanged (disch := first|omega|(simp [wcs_len]<;>omega)|fail) only [go_sem,simprocAttr]
  refine wcall (c48 b hs _) ?_
  cases hc : checkB b with
  | false => simp -failIfUnchanged (disch := first|omega|(simp [wcs_len]<;>omega)|fail) only [go_sem,simprocAttr]
  | true =>
   cases hw : within n 0 (w64 (mostT b i - 1)) with
   | false => simp -failIfUnchanged (disch := first|omega|(simp [wcs_len]<;>omega)|fail) only [go_sem,simprocAttr]
   | true =>
    have hv := val_of_check hc
    obtain ⟨hb1, hb2⟩ := hv.hb
    obtain ⟨hp1, hp2⟩ := hv.hp
    obtain ⟨P, hP⟩ : ∃ P, b.places.toNat = P := ⟨_, rfl⟩
    have hPi : b.places = (P : Int) := by omega
    have hiP : i = P := by omega
    subst hiP
    obtain ⟨hm1, hm2⟩ := mostT_eq hv.hb i (by omega)
    have h10 : (10 : Nat) ^ i ≤ 10000 := by
     have : i = 1 ∨ i = 2 ∨ i = 3 ∨ i = 4 := by omega
     rcases this with rfl | rfl | rfl | rfl <;> decide
    have hw2 : 0 ≤ n ∧ n ≤ w64 (mostT b i - 1) := by simpa [within] using hw
    rw [hm1, w64_id (by omega)] at hw2
    obtain ⟨n0, rfl⟩ : ∃ m : Nat, n = m := ⟨n.toNat, by omega⟩
    have em : ∀ n : Nat, Int.tmod (n : Int) b.base = ((n % b.base.toNat : Nat) : Int) := fun n => by
     obtain ⟨B, hB⟩ : ∃ B : Nat, b.base = B := ⟨b.base.toNat, by omega⟩
     rw [hB]; rfl
    have eq : ∀ n : Nat, Int.tdiv (n : Int) b.base = ((n / b.base.toNat : Nat) : Int) := fun n => by
     obtain ⟨B, hB⟩ : ∃ B : Nat, b.base = B := ⟨b.base.toNat, by omega⟩
     rw [hB]; rfl
    rw [hP]
    simp -failIfUnchanged (disch := first|omega|(simp [wcs_len]<;>omega)|fail) only [go_sem,simprocAttr, hPi]
    refine wcall_in hmix Tryz.func84 m84 rfl ?_
    unfold v84
    simp -failIfUnchanged (disch := first|omega|(simp [wcs_len]<;>omega)|fail) only [go_sem,simprocAttr]
    refine wp_range' ?_
    simp -failIfUnchanged (disch := first|omega|(simp [wcs_len]<;>omega)|fail) only [go_sem,simprocAttr]
    refine wrangew fun l T hT => ?_
    refine csem_of_wp hmix Tryz.func132 m132 rfl rfl ?_
    unfold v132
    simp -failIfUnchanged (disch := first|omega|(simp [wcs_len]<;>omega)|fail) only [go_sem,simprocAttr]
    refine wp_loopX (Nat × Nat × List Int) (fun x => ⟨[(0, .yld l), (1, .ptr 3001 0), (3, .int ((x.1 : Int) - 1))],
     [(3001, ⟨[.bsl 34 0 1 i false], false⟩), (8, ⟨[.bsl 34 0 1 i false], false⟩), (34, ⟨(List.replicate x.1 (0 : Int) ++ x.2.2).map .int, false⟩), (3, ⟨[.int x.2.1], false⟩), (2, ⟨[.int b.base, .int i, .sl 1 (b.cords.map SS) .sh, SS b.top], false⟩)], [], none⟩)
     (fun x => x.1 ≤ i ∧ x.2.1 < 4294967296 ∧ x.2.2.length = i - x.1 ∧ tieN b.base.toNat x.1 x.2.1 ++ x.2.2 = tieN b.base.toNat i n0) (fun x => x.1) (i, n0, []) ⟨by simp, by dsimp only; omega, by simp, by simp⟩ (by simp -failIfUnchanged (disch := first|omega|(simp [wcs_len]<;>omega)|fail) only [go_sem,simprocAttr]) (fun x => by simp -failIfUnchanged (disch := first|omega|(simp [wcs_len]<;>omega)|fail) only [go_sem,simprocAttr]) ?_
    rintro ⟨q, m, suf⟩ ⟨hq, hm, hsl, hsuf⟩
    dsimp only at hq hm hsl hsuf ⊢
    simp -failIfUnchanged (disch := first|omega|(simp [wcs_len]<;>omega)|fail) only [go_sem,simprocAttr]
    refine wcond_dec (fun h => ?_) (fun h => ?_)
    ·obtain ⟨k, rfl⟩ : ∃ k, q = k + 1 := ⟨q - 1, by omega⟩
     rw [show ((k + 1 : Nat) : Int) - 1 = (k : Int) by omega]
     have hlen : (List.replicate (k + 1) (0 : Int) ++ suf).length = i := by simp; omega
     have hset : (List.replicate (k + 1) (0 : Int) ++ suf).set k ((m % b.base.toNat : Nat) : Int) = List.replicate k 0 ++ ((m % b.base.toNat : Nat) : Int) :: suf := by
      rw [List.replicate_succ', List.append_assoc, List.set_append_right _ _ (by simp)]
      simp
     have hdiv : m / b.base.toNat ≤ m := Nat.div_le_self _ _
     obtain ⟨m2, hm2⟩ : ∃ m2, m / b.base.toNat = m2 := ⟨_, rfl⟩
     rw [hm2] at hdiv
     generalize hxs : List.replicate (k + 1) (0 : Int) ++ suf = xs at hlen hset
     simp -failIfUnchanged (disch := first|omega|(simp [wcs_len]<;>omega)|fail) only [go_sem,simprocAttr]
     refine wyield (hT _ _ _ _ _ rfl ?_)
     simp -failIfUnchanged (disch := first|omega|(simp [wcs_len]<;>omega)|fail) only [go_sem,simprocAttr, em, eq, hm2]
     refine ⟨(k, m2, ((m % b.base.toNat : Nat) : Int) :: suf), ⟨by dsimp only; omega, by dsimp only; omega, by simp only [List.length_cons]; omega, ?_⟩, by dsimp only; omega, ?_⟩
     ·rw [← hsuf]
      simp [tieN, hm2]
     ·simp -failIfUnchanged (disch := first|omega|(simp [wcs_len]<;>omega)|fail) only [go_sem,simprocAttr, hset]
    ·simp -failIfUnchanged (disch := first|omega|(simp [wcs_len]<;>omega)|fail) only [go_sem,simprocAttr]
     have e : q = 0 := by omega
     subst e
     simp only [List.replicate_zero, List.nil_append] at hsuf ⊢
     have hs2 : suf.length = i := by omega
     have e2 : suf = tieN b.base.toNat i n0 := by
      rw [← hsuf]
      rfl
     rw [if_pos (by omega), chunks_ints hs2.symm, e2]
     exact ⟨rfl, rfl⟩
end Go.Proofs.YtpangdaijhiohaaGreatDoor.Kn

set_option linter.unusedSimpArgs false
set_option linter.unusedVariables false
set_option linter.unnecessarySimpa false
namespace Go.Proofs.YtpangdaijhiohaaGreatDoor.Kn
open Go Go.V
end Go.Proofs.YtpangdaijhiohaaGreatDoor.Kn

set_option linter.unusedSimpArgs false
set_option linter.unusedVariables false
set_option linter.unnecessarySimpa false
namespace Go.Proofs.YtpangdaijhiohaaGreatDoor.Kn
open Go Go.V
def blameAt (b : Bk) (c p d : Nat) : Bool := decide (0 < costL (((allC b)[c]?.getD default)[p]?.getD default) d) && decide ((solveL b (onlyF yes3 c p d) yes2).k = (solveL b yes3 yes2).k)
def blameC (b : Bk) (c : Nat) : Bool := (List.range ((allC b)[c]?.getD default).length).any fun p => (List.range b.base.toNat).any fun d => blameAt b c p d
def blameL (b : Bk) (k : Nat) : List Int := ((List.range k).filter (blameC b)).map (fun n : Nat => (n : Int))
theorem blameL_succ (b : Bk) (k : Nat) : blameL b (k + 1) = blameL b k ++ (if blameC b k then [(k : Int)] else []) := by
 unfold blameL
 rw [List.range_succ, List.filter_append, List.map_append]
 congr 1
 by_cases h : blameC b k <;> simp [h]
theorem blameL_len (b : Bk) (k : Nat) : (blameL b k).length ≤ k := by
 unfold blameL
 rw [List.length_map]
 exact Nat.le_trans (List.length_filter_le _ _) (by simp)
theorem c38 (b : Bk) (hs : Small b) : Ctr Tryz.prog 38 [KB b]
  (if checkB b then
   if (blameL b (b.cords.length + 1)).length = 0 then .tup [.sl 1 [] .sh, .int 3] else .tup [IS (blameL b (b.cords.length + 1)), .int 0]
  else .tup [.sl 1 [] .sh, .int 110]) := by
 refine ctr_of_wp hmix Tryz.func38 m38 rfl ?_
 unfold v38
 simp -failIfUnchanged (disch := first|omega|(simp [wcs_len]<;>omega)|fail) only [go_sem,simprocAttr]
 refine wcall (c36 b hs) ?_
 cases hc : checkB b with
 | false => simp -failIfUnchanged (disch := first|omega|(simp [wcs_len]<;>omega)|fail) only [go_sem,simprocAttr]
 | true =>
  have hv := val_of_check hc
  obtain ⟨hb1, hb2⟩ := hv.hb
  obtain ⟨hp1, hp2⟩ := hv.hp
  have hc4 := hv.hc
  obtain ⟨B, hB⟩ : ∃ B : Nat, b.base = B := ⟨b.base.toNat, by omega⟩
  have hBn : b.base.toNat = B := by omega
  obtain ⟨z, hz⟩ : ∃ z, (solveL b yes3 yes2).k = z := ⟨_, rfl⟩
  simp -failIfUnchanged (disch := first|omega|(simp [wcs_len]<;>omega)|fail) only [go_sem,simprocAttr, hz]
  refine wcall (c72 b) ?_
  simp -failIfUnchanged (disch := first|omega|(simp [wcs_len]<;>omega)|fail) only [go_sem,simprocAttr]
  refine wcall (c51 b hs) ?_
  have hal : (allC b).length = b.cords.length + 1 := by simp [allC]
  simp -failIfUnchanged (disch := first|omega|(simp [wcs_len]<;>omega)|fail) only [go_sem,simprocAttr]
  rw [hal]
  refine wp_loop' Nat (fun c => ⟨[(1, .ptr 1 0), (4, .int z), (6, .sl 1 ((blameL b c).map .int) (.own 6)), (7, .ptr 7 0), (24, .sl 1 ((allC b).map SS) .sh), (25, .int ((b.cords.length + 1 : Nat) : Int)), (26, .int c)],
    [(7, ⟨[.int b.base, .int b.places, .sl 1 (b.cords.map SS) .sh, SS b.top, .clo 117 [] [], .clo 118 [] []], false⟩), (1, ⟨[.int b.base, .int b.places, .sl 1 (b.cords.map SS) .sh, SS b.top], false⟩)], [(6, (blameL b c).length)], none⟩)
    (fun c => c ≤ b.cords.length + 1) (fun c => b.cords.length + 1 - c) 0 (by simp) (by simp -failIfUnchanged (disch := first|omega|(simp [wcs_len]<;>omega)|fail) only [go_sem,simprocAttr]; try simp [blameL]) ?_
  intro c hcl
  have hbl := blameL_len b c
  simp -failIfUnchanged (disch := first|omega|(simp [wcs_len]<;>omega)|fail) only [go_sem,simprocAttr]
  refine wcond_dec (fun h1 => ?_) (fun h1 => ?_)
  ·have hclt : c < b.cords.length + 1 := by omega
   obtain ⟨cl, hcl2⟩ : ∃ cl, (allC b)[c]?.getD default = cl := ⟨_, rfl⟩
   have hclm : cl ∈ allC b := by rw [← hcl2]; exact mem_getD (by omega)
   have hcv : (cl.length : Int) = b.places ∧ ∀ s ∈ cl, 0 ≤ s.lo ∧ s.lo ≤ s.hi ∧ s.hi < b.base := by
    rcases List.mem_append.1 hclm with h | h
    ·exact hv.cord cl h
    ·simp at h; subst h; exact hv.top
   simp -failIfUnchanged (disch := first|omega|(simp [wcs_len]<;>omega)|fail) only [go_sem,simprocAttr, hcl2]
   refine wp_loop' Nat (fun p => ⟨[(1, .ptr 1 0), (4, .int z), (6, .sl 1 ((blameL b c).map .int) (.own 6)), (7, .ptr 7 0), (8, .int c), (24, .sl 1 ((allC b).map SS) .sh), (25, .int ((b.cords.length + 1 : Nat) : Int)), (26, .int c), (31, SS cl), (32, .int cl.length), (33, .int p)],
    [(7, ⟨[.int b.base, .int b.places, .sl 1 (b.cords.map SS) .sh, SS b.top, .clo 117 [] [], .clo 118 [] []], false⟩), (1, ⟨[.int b.base, .int b.places, .sl 1 (b.cords.map SS) .sh, SS b.top], false⟩)], [(6, (blameL b c).length)], none⟩)
    (fun p => p ≤ cl.length ∧ ∀ p', p' < p → ((List.range b.base.toNat).any fun d => blameAt b c p' d) = false) (fun p => cl.length - p) 0 (by simp) (by simp -failIfUnchanged (disch := first|omega|(simp [wcs_len]<;>omega)|fail) only [go_sem,simprocAttr]; try simp) ?_
   rintro p ⟨hpl, hpre⟩
   simp -failIfUnchanged (disch := first|omega|(simp [wcs_len]<;>omega)|fail) only [go_sem,simprocAttr]
   refine wcond_dec (fun h2 => ?_) (fun h2 => ?_)
   ·have hplt : p < cl.length := by omega
    obtain ⟨s, hsp⟩ : ∃ s, cl[p]?.getD default = s := ⟨_, rfl⟩
    have hsv := hcv.2 s (by rw [← hsp]; exact mem_getD hplt)
    simp -failIfUnchanged (disch := first|omega|(simp [wcs_len]<;>omega)|fail) only [go_sem,simprocAttr, hsp]
    refine wp_loop' Nat (fun d => ⟨[(1, .ptr 1 0), (4, .int z), (6, .sl 1 ((blameL b c).map .int) (.own 6)), (7, .ptr 7 0), (8, .int c), (10, .int p), (11, .ptr 11 0), (24, .sl 1 ((allC b).map SS) .sh), (25, .int ((b.cords.length + 1 : Nat) : Int)), (26, .int c), (31, SS cl), (32, .int cl.length), (33, .int p), (39, .int b.base), (40, .int d)],
     [(11, ⟨[.int s.lo, .int s.hi], false⟩), (7, ⟨[.int b.base, .int b.places, .sl 1 (b.cords.map SS) .sh, SS b.top, .clo 117 [] [], .clo 118 [] []], false⟩), (1, ⟨[.int b.base, .int b.places, .sl 1 (b.cords.map SS) .sh, SS b.top], false⟩)], [(6, (blameL b c).length)], none⟩)
     (fun d => d ≤ B ∧ ∀ d', d' < d → blameAt b c p d' = false) (fun d => B - d) 0 (by simp) (by simp -failIfUnchanged (disch := first|omega|(simp [wcs_len]<;>omega)|fail) only [go_sem,simprocAttr]; try simp) ?_
    rintro d ⟨hdl, hdpre⟩
    have hat : blameAt b c p d = (decide (0 < costL s d) && decide ((solveL b (onlyF yes3 c p d) yes2).k = z)) := by
     unfold blameAt
     rw [hcl2, hsp, hz]
    have hyes : blameAt b c p d = true → d < B → blameL b (c + 1) = blameL b c ++ [(c : Int)] := by
     intro h hd
     rw [blameL_succ]
     have : blameC b c = true := by
      unfold blameC
      rw [List.any_eq_true]
      refine ⟨p, by rw [hcl2]; exact List.mem_range.2 hplt, ?_⟩
      rw [List.any_eq_true]
      exact ⟨d, List.mem_range.2 (by omega), h⟩
     rw [this]
     rfl
    have hno : blameAt b c p d = false → ∀ d', d' < d + 1 → blameAt b c p d' = false := by
     intro h d' hd'
     rcases Nat.lt_or_ge d' d with h' | h'
     ·exact hdpre d' h'
     ·rw [show d' = d by omega]; exact h
    simp -failIfUnchanged (disch := first|omega|(simp [wcs_len]<;>omega)|fail) only [go_sem,simprocAttr]
    refine wcond_dec (fun h3 => ?_) (fun h3 => ?_)
    ·simp -failIfUnchanged (disch := first|omega|(simp [wcs_len]<;>omega)|fail) only [go_sem,simprocAttr]
     refine wcall (c88 s d (by omega) (by omega) (by omega)) ?_
     have hcost : max (max 0 (s.lo - (d : Int))) ((d : Int) - s.hi) = costL s d := rfl
     rw [hcost]
     simp -failIfUnchanged (disch := first|omega|(simp [wcs_len]<;>omega)|fail) only [go_sem,simprocAttr]
     refine WGd_bool (fun h4 => ?_) (fun h4 => ?_)
     ·simp -failIfUnchanged (disch := first|omega|(simp [wcs_len]<;>omega)|fail) only [go_sem,simprocAttr, h4]
      refine wcall (c64 b 117 118 [] [] c p d) ?_
      simp -failIfUnchanged (disch := first|omega|(simp [wcs_len]<;>omega)|fail) only [go_sem,simprocAttr, h4]
      refine wcall (c85 b hv 109 118 _ [] (onlyF yes3 c p d) yes2 (fun c' p' d' _ _ _ => c109 117 [] yes3 c p d c' p' d' (c117 c' p' d')) (fun p n _ _ => c118 p n)) ?_
      simp -failIfUnchanged (disch := first|omega|(simp [wcs_len]<;>omega)|fail) only [go_sem,simprocAttr, h4]
      simp only [decide_eq_true_eq, gt_iff_lt] at h4
      refine wcond_dec (fun h5 => ?_) (fun h5 => ?_)
      ·simp -failIfUnchanged (disch := first|omega|(simp [wcs_len]<;>omega)|fail) only [go_sem,simprocAttr]
       refine ⟨c + 1, by omega, by dsimp only; omega, ?_⟩
       dsimp only
       rw [hyes (by rw [hat]; simp [h4, h5]) (by omega)]
       simp -failIfUnchanged (disch := first|omega|(simp [wcs_len]<;>omega)|fail) only [go_sem,simprocAttr]
       try simp
      ·simp -failIfUnchanged (disch := first|omega|(simp [wcs_len]<;>omega)|fail) only [go_sem,simprocAttr]
       refine ⟨d + 1, ⟨by omega, hno (by rw [hat]; simp [h5])⟩, by dsimp only; omega, ?_⟩
       simp -failIfUnchanged (disch := first|omega|(simp [wcs_len]<;>omega)|fail) only [go_sem,simprocAttr]
       try simp
     ·simp -failIfUnchanged (disch := first|omega|(simp [wcs_len]<;>omega)|fail) only [go_sem,simprocAttr, h4]
      simp only [Bool.not_true, decide_eq_false_iff_not, gt_iff_lt] at h4
      refine ⟨d + 1, ⟨by omega, hno (by rw [hat]; simp [h4])⟩, by dsimp only; omega, ?_⟩
      simp -failIfUnchanged (disch := first|omega|(simp [wcs_len]<;>omega)|fail) only [go_sem,simprocAttr]
      try simp
    ·simp -failIfUnchanged (disch := first|omega|(simp [wcs_len]<;>omega)|fail) only [go_sem,simprocAttr]
     have ed : d = B := by omega
     refine ⟨p + 1, ⟨by omega, fun p' hp' => ?_⟩, by dsimp only; omega, ?_⟩
     ·rcases Nat.lt_or_ge p' p with h' | h'
      ·exact hpre p' h'
      ·rw [show p' = p by omega, List.any_eq_false]
       intro d' hd'
       rw [hdpre d' (by have := List.mem_range.1 hd'; omega)]
       simp
     ·simp -failIfUnchanged (disch := first|omega|(simp [wcs_len]<;>omega)|fail) only [go_sem,simprocAttr]
      simp
   ·simp -failIfUnchanged (disch := first|omega|(simp [wcs_len]<;>omega)|fail) only [go_sem,simprocAttr]
    have ep : p = cl.length := by omega
    refine ⟨c + 1, by omega, by dsimp only; omega, ?_⟩
    have : blameC b c = false := by
     unfold blameC
     rw [List.any_eq_false]
     intro p' hp'
     rw [hcl2] at hp'
     rw [hpre p' (by have := List.mem_range.1 hp'; omega)]
     simp
    dsimp only
    rw [blameL_succ, this]
    simp -failIfUnchanged (disch := first|omega|(simp [wcs_len]<;>omega)|fail) only [go_sem,simprocAttr]
    try simp
  ·simp -failIfUnchanged (disch := first|omega|(simp [wcs_len]<;>omega)|fail) only [go_sem,simprocAttr]
   have e : c = b.cords.length + 1 := by omega
   subst e
   refine wcond_dec (fun h2 => ?_) (fun h2 => ?_)
   ·simp -failIfUnchanged (disch := first|omega|(simp [wcs_len]<;>omega)|fail) only [go_sem,simprocAttr, h2]
    have h2' : (blameL b (b.cords.length + 1)).length = 0 := by omega
    simp [h2']
   ·simp -failIfUnchanged (disch := first|omega|(simp [wcs_len]<;>omega)|fail) only [go_sem,simprocAttr, h2]
    have h2' : ¬ (blameL b (b.cords.length + 1)).length = 0 := by omega
    simp only [if_neg h2']
end Go.Proofs.YtpangdaijhiohaaGreatDoor.Kn

set_option linter.unusedSimpArgs false
set_option linter.unusedVariables false
set_option linter.unnecessarySimpa false
namespace Go.Proofs.YtpangdaijhiohaaGreatDoor.Kn
def sumF {α : Type} (l : List α) (f : α → Nat) : Nat := (l.map f).sum
section
variable {α β : Type}
theorem sumF_nil (f : α → Nat) : sumF [] f = 0 := rfl
theorem sumF_cons (a : α) (l : List α) (f : α → Nat) : sumF (a :: l) f = f a + sumF l f := by simp [sumF]
theorem sumF_append (l k : List α) (f : α → Nat) : sumF (l ++ k) f = sumF l f + sumF k f := by simp [sumF]
theorem sumF_map (l : List α) (g : α → β) (f : β → Nat) : sumF (l.map g) f = sumF l fun a => f (g a) := by simp [sumF, Function.comp_def]
theorem sumF_congr {l : List α} {f g : α → Nat} (h : ∀ a ∈ l, f a = g a) : sumF l f = sumF l g := by
 induction l with
 | nil => rfl
 | cons a r ih => rw [sumF_cons, sumF_cons, h a (by simp), ih fun b hb => h b (by simp [hb])]
theorem sumF_flatMap (l : List α) (g : α → List β) (f : β → Nat) : sumF (l.flatMap g) f = sumF l fun a => sumF (g a) f := by
 induction l with
 | nil => rfl
 | cons a r ih => rw [List.flatMap_cons, sumF_append, ih, sumF_cons]
theorem sumF_filter (l : List α) (p : α → Bool) (f : α → Nat) : sumF (l.filter p) f = sumF l fun a => if p a then f a else 0 := by
 induction l with
 | nil => rfl
 | cons a r ih =>
  rw [sumF_cons, ← ih]
  by_cases h : p a
  ·rw [List.filter_cons_of_pos h, sumF_cons, if_pos h]
  ·rw [List.filter_cons_of_neg h, if_neg h, Nat.zero_add]
theorem sumF_zero (l : List α) : (sumF l fun _ => 0) = 0 := by
 induction l with
 | nil => rfl
 | cons a r ih => rw [sumF_cons, ih]
theorem sumF_add (l : List α) (f g : α → Nat) : (sumF l fun a => f a + g a) = sumF l f + sumF l g := by
 induction l with
 | nil => rfl
 | cons a r ih => rw [sumF_cons, sumF_cons, sumF_cons, ih]; omega
theorem sumF_comm (l : List α) (k : List β) (f : α → β → Nat) : (sumF l fun a => sumF k (f a)) = sumF k fun b => sumF l fun a => f a b := by
 induction l with
 | nil => simp only [sumF_nil, sumF_zero]
 | cons a r ih =>
  rw [sumF_cons, ih, ← sumF_add]
  exact sumF_congr fun b _ => by rw [sumF_cons]
theorem sumF_if (c : Prop) [Decidable c] (l : List α) (f : α → Nat) : (if c then sumF l f else 0) = sumF l fun a => if c then f a else 0 := by
 by_cases h : c
 ·simp only [if_pos h]
 ·simp only [if_neg h, sumF_zero]
theorem sumF_pos {l : List α} {f : α → Nat} : 0 < sumF l f ↔ ∃ a ∈ l, 0 < f a := by
 induction l with
 | nil => simp [sumF_nil]
 | cons a r ih =>
  rw [sumF_cons]
  constructor
  ·intro h
   by_cases h1 : 0 < f a
   ·exact ⟨a, by simp, h1⟩
   ·obtain ⟨b, hb, h2⟩ := ih.1 (by omega)
    exact ⟨b, by simp [hb], h2⟩
  ·rintro ⟨b, hb, h⟩
   rcases List.mem_cons.1 hb with rfl | hb
   ·omega
   ·have := ih.2 ⟨b, hb, h⟩
    omega
theorem sumF_le {l : List α} {f g : α → Nat} (h : ∀ a ∈ l, f a ≤ g a) : sumF l f ≤ sumF l g := by
 induction l with
 | nil => simp [sumF_nil]
 | cons a r ih =>
  rw [sumF_cons, sumF_cons]
  have := h a (by simp)
  have := ih fun b hb => h b (by simp [hb])
  omega
theorem sumF_len (l : List α) : (sumF l fun _ => 1) = l.length := by
 induction l with
 | nil => rfl
 | cons a r ih => rw [sumF_cons, ih, List.length_cons]; omega
theorem sumF_range_succ (n : Nat) (f : Nat → Nat) : sumF (List.range (n + 1)) f = sumF (List.range n) f + f n := by
 rw [List.range_succ, sumF_append, sumF_cons, sumF_nil, Nat.add_zero]
theorem sumF_range_add (n m : Nat) (f : Nat → Nat) : sumF (List.range (n + m)) f = sumF (List.range n) f + sumF (List.range m) fun t => f (n + t) := by
 induction m with
 | zero => simp [sumF_nil]
 | succ m ih => rw [← Nat.add_assoc, sumF_range_succ, ih, sumF_range_succ, Nat.add_assoc]
theorem sumF_range_mul (B N : Nat) (f : Nat → Nat) : sumF (List.range (B * N)) f = sumF (List.range B) fun d => sumF (List.range N) fun t => f (d * N + t) := by
 induction B with
 | zero => simp [sumF_nil]
 | succ B ih => rw [Nat.succ_mul, sumF_range_add, ih, sumF_range_succ]
end
def tup : Nat → Nat → List (List Nat)
 | 0, _ => [[]]
 | m + 1, N => (List.range N).flatMap fun n => (tup m N).map fun t => n :: t
theorem tup_mem {m N : Nat} : ∀ {t : List Nat}, t ∈ tup m N ↔ t.length = m ∧ ∀ x ∈ t, x < N := by
 induction m with
 | zero =>
  intro t
  simp only [tup, List.mem_singleton]
  constructor
  ·rintro rfl; simp
  ·rintro ⟨h, _⟩; exact List.eq_nil_of_length_eq_zero h
 | succ m ih =>
  intro t
  simp only [tup, List.mem_flatMap, List.mem_range, List.mem_map]
  constructor
  ·rintro ⟨n, hn, u, hu, rfl⟩
   obtain ⟨h1, h2⟩ := ih.1 hu
   refine ⟨by simp [h1], fun x hx => ?_⟩
   rcases List.mem_cons.1 hx with rfl | hx
   ·exact hn
   ·exact h2 x hx
  ·rintro ⟨h1, h2⟩
   cases t with
   | nil => simp at h1
   | cons n u => exact ⟨n, h2 n (by simp), u, ih.2 ⟨by simpa using h1, fun x hx => h2 x (by simp [hx])⟩, rfl⟩
theorem sumF_tup_succ (m N : Nat) (f : List Nat → Nat) : sumF (tup (m + 1) N) f = sumF (List.range N) fun n => sumF (tup m N) fun t => f (n :: t) := by
 rw [tup, sumF_flatMap]
 exact sumF_congr fun n _ => by rw [sumF_map]
def comb (N : Nat) : List Nat → List Nat → List Nat
 | d :: ds, t :: ts => (d * N + t) :: comb N ds ts
 | _, _ => []
theorem sumF_tup_mul (B N : Nat) : ∀ (m : Nat) (f : List Nat → Nat), sumF (tup m (B * N)) f = sumF (tup m N) fun t => sumF (tup m B) fun d => f (comb N d t)
 | 0, f => by simp [tup, sumF_cons, sumF_nil, comb]
 | m + 1, f => by
  rw [sumF_tup_succ, sumF_range_mul, sumF_tup_succ]
  have : (fun d => sumF (List.range N) fun t => sumF (tup m (B * N)) fun u => f ((d * N + t) :: u)) = fun d => sumF (List.range N) fun t => sumF (tup m N) fun u => sumF (tup m B) fun e => f ((d * N + t) :: comb N e u) := by
   funext d
   congr 1
   funext t
   exact sumF_tup_mul B N m _
  rw [this, sumF_comm]
  refine sumF_congr fun t _ => ?_
  rw [sumF_comm]
  refine sumF_congr fun u _ => ?_
  rw [sumF_tup_succ]
  rfl
theorem comb_low {N : Nat} : ∀ {d t : List Nat}, d.length = t.length → (∀ x ∈ t, x < N) → (comb N d t).map (· % N) = t ∧ (comb N d t).map (· / N) = d
 | [], [], _, _ => ⟨rfl, rfl⟩
 | d :: ds, t :: ts, hl, ht => by
  obtain ⟨h1, h2⟩ := comb_low (d := ds) (t := ts) (by simpa using hl) fun x hx => ht x (by simp [hx])
  have h0 := ht t (by simp)
  simp only [comb, List.map_cons, h1, h2, List.cons.injEq, and_true]
  constructor
  ·rw [Nat.mul_comm, Nat.mul_add_mod, Nat.mod_eq_of_lt h0]
  ·rw [Nat.mul_comm, Nat.mul_add_div (by omega), Nat.div_eq_of_lt h0, Nat.add_zero]
 | [], _ :: _, h, _ => by simp at h
 | _ :: _, [], h, _ => by simp at h
end Go.Proofs.YtpangdaijhiohaaGreatDoor.Kn

set_option linter.unusedSimpArgs false
set_option linter.unusedVariables false
set_option linter.unnecessarySimpa false
namespace Go.Proofs.YtpangdaijhiohaaGreatDoor.Kn
open Go Go.V
abbrev at0 (s : List Wy) (n : Nat) : Wy := s[n]?.getD default
structure Sem (s : List Wy) (L : List (Nat × Int)) : Prop where
 r : ∀ n, n < 51 → (at0 s n).r = ((sumF L fun e => if e.1 = n ∧ e.2 = 0 then 1 else 0 : Nat) : Int)
 lo : ∀ n, n < 51 → ∀ e ∈ L, e.1 = n → (at0 s n).k ≤ e.2
 ex : ∀ n, n < 51 → (at0 s n).k = 1048576 ∨ ∃ e ∈ L, e.1 = n ∧ e.2 = (at0 s n).k
theorem at0_set (s : List Wy) (i j : Nat) (w : Wy) (h : s.length = 51) (hi : i < 51) : at0 (s.set i w) j = if i = j then w else at0 s j := by
 unfold at0
 rw [List.getElem?_set]
 by_cases e : i = j
 ·subst e
  simp [h, hi]
 ·rw [if_neg e, if_neg e]
theorem addD_len (d : Nat) (cost : Int) (s : List Wy) : ∀ (m : Nat) (out : List Wy), ((List.range m).foldl (addN d cost s) out).length = out.length
 | 0, _ => rfl
 | m + 1, out => by
  rw [List.range_succ, List.foldl_append]
  simp only [List.foldl_cons, List.foldl_nil, addN, List.length_set]
  exact addD_len d cost s m out
theorem addD_at (d : Nat) (cost : Int) (s out : List Wy) (ho : out.length = 51) (j : Nat) : ∀ m, m + d ≤ 51 → at0 ((List.range m).foldl (addN d cost s) out) j =
  if d ≤ j ∧ j < d + m then ⟨min (at0 out j).k ((at0 s (j - d)).k + cost), if cost = 0 then w64 ((at0 out j).r + (at0 s (j - d)).r) else (at0 out j).r⟩ else at0 out j
 | 0, _ => by rw [if_neg (by omega)]; rfl
 | m + 1, h => by
  have ih := fun j => addD_at d cost s out ho j m (by omega)
  rw [List.range_succ, List.foldl_append]
  simp only [List.foldl_cons, List.foldl_nil]
  rw [addN, at0_set _ _ _ _ (by rw [addD_len]; exact ho) (by omega)]
  by_cases e : m + d = j
  ·rw [if_pos e, if_pos (show d ≤ j ∧ j < d + (m + 1) by omega)]
   have hm : at0 ((List.range m).foldl (addN d cost s) out) (m + d) = at0 out (m + d) := by rw [ih, if_neg (by omega)]
   simp only [at0] at hm
   rw [hm]
   subst e
   rw [Nat.add_sub_cancel]
  ·rw [if_neg e, ih j]
   by_cases h2 : d ≤ j ∧ j < d + m
   ·rw [if_pos h2, if_pos (show d ≤ j ∧ j < d + (m + 1) by omega)]
   ·rw [if_neg h2, if_neg (show ¬ (d ≤ j ∧ j < d + (m + 1)) by omega)]
theorem sem_addD {d : Nat} {cost : Int} {s out : List Wy} {Ls Lo : List (Nat × Int)} (hs : Sem s Ls) (ho : Sem out Lo) (okS : Okw s) (okO : Okw out) (hc : 0 ≤ cost)
  (hb : ∀ e ∈ Ls, e.1 + d < 51 ∧ 0 ≤ e.2) (hd : d ≤ 51) (hl : Lo.length + Ls.length < 9223372036854775807) : Sem (addD d cost s out) (Lo ++ Ls.map fun e => (e.1 + d, e.2 + cost)) := by
 have hat := fun j => addD_at d cost s out okO.len j (51 - d) (by omega)
 have hcnt : ∀ (L : List (Nat × Int)) (n : Nat), (sumF L fun e => if e.1 = n ∧ e.2 = 0 then 1 else 0) ≤ L.length := by
  intro L n
  rw [← sumF_len]
  exact sumF_le fun e _ => by split <;> omega
 refine ⟨fun n hn => ?_, fun n hn e he h1 => ?_, fun n hn => ?_⟩
 ·rw [addD, hat, sumF_append, sumF_map]
  by_cases h : d ≤ n
  ·rw [if_pos (by omega)]
   have e1 : (sumF Ls fun a => if a.1 + d = n ∧ a.2 + cost = 0 then 1 else 0) = if cost = 0 then (sumF Ls fun e => if e.1 = n - d ∧ e.2 = 0 then 1 else 0) else 0 := by
    by_cases hz : cost = 0
    ·rw [if_pos hz]
     refine sumF_congr fun a ha => ?_
     have := hb a ha
     by_cases q : a.1 = n - d ∧ a.2 = 0
     ·rw [if_pos q, if_pos (by omega)]
     ·rw [if_neg q, if_neg (by omega)]
    ·rw [if_neg hz]
     refine Eq.trans (sumF_congr (g := fun _ => 0) fun a ha => ?_) (sumF_zero Ls)
     have := hb a ha
     rw [if_neg (by omega)]
   rw [e1]
   by_cases hz : cost = 0
   ·simp only [if_pos hz]
    rw [ho.r n hn, hs.r (n - d) (by omega)]
    have := hcnt Lo n
    have := hcnt Ls (n - d)
    rw [w64_id (by omega)]
    omega
   ·simp only [if_neg hz]
    rw [ho.r n hn]
    omega
  ·rw [if_neg (by omega), ho.r n hn]
   have : (sumF Ls fun a => if a.1 + d = n ∧ a.2 + cost = 0 then 1 else 0) = 0 := by
    refine Eq.trans (sumF_congr (g := fun _ => 0) fun a ha => ?_) (sumF_zero Ls)
    rw [if_neg (by omega)]
   rw [this, Nat.add_zero]
 ·rw [addD, hat]
  rcases List.mem_append.1 he with he | he
  ·have := ho.lo n hn e he h1
   split
   ·dsimp only; omega
   ·exact this
  ·obtain ⟨a, ha, rfl⟩ := List.mem_map.1 he
   dsimp only at h1 ⊢
   have := hs.lo (n - d) (by omega) a ha (by omega)
   rw [if_pos (by omega)]
   dsimp only
   omega
 ·rw [addD, hat]
  split
  ·rename_i hh
   dsimp only
   by_cases hle : (at0 out n).k ≤ (at0 s (n - d)).k + cost
   ·rw [Int.min_eq_left hle]
    rcases ho.ex n hn with h | ⟨e, h1, h2, h3⟩
    ·exact .inl h
    ·exact .inr ⟨e, by simp [h1], h2, h3⟩
   ·rw [Int.min_eq_right (by omega)]
    have hk := okO.k1 n hn
    rcases hs.ex (n - d) (by omega) with h | ⟨e, h1, h2, h3⟩
    ·have h' : (s[n - d]?.getD default).k = 1048576 := h
     simp only [at0] at hle h hk
     omega
    ·exact .inr ⟨(e.1 + d, e.2 + cost), by simp only [List.mem_append, List.mem_map]; exact .inr ⟨e, h1, rfl⟩, by dsimp only; omega, by dsimp only; omega⟩
  ·rcases ho.ex n hn with h | ⟨e, h1, h2, h3⟩
   ·exact .inl h
   ·exact .inr ⟨e, by simp [h1], h2, h3⟩
theorem sem_none : Sem ((emptyL 0).set 0 ⟨1048576, 0⟩) [] := by
 have hl : (emptyL 0).length = 51 := by simp [emptyL]
 have key : ∀ n, n < 51 → at0 ((emptyL 0).set 0 ⟨1048576, 0⟩) n = ⟨1048576, 0⟩ := by
  intro n hn
  rw [at0_set _ _ _ _ hl (by omega)]
  by_cases h : 0 = n
  ·rw [if_pos h]
  ·rw [if_neg h]
   simp only [at0, emptyL, List.getElem?_set, List.getElem?_replicate, List.length_replicate]
   rw [if_neg (by omega)]
   simp [hn]
 refine ⟨fun n hn => by rw [key n hn]; rfl, fun n hn e he => by simp at he, fun n hn => .inl (by rw [key n hn])⟩
theorem sem_one : Sem (emptyL 0) [(0, 0)] := by
 have key : ∀ n, n < 51 → at0 (emptyL 0) n = if n = 0 then ⟨0, 1⟩ else ⟨1048576, 0⟩ := by
  intro n hn
  simp only [at0, emptyL, List.getElem?_set, List.getElem?_replicate, List.length_replicate]
  by_cases h : n = 0
  ·subst h; rfl
  ·rw [if_neg (by omega), if_neg h]
   simp [hn]
 refine ⟨fun n hn => ?_, fun n hn e he h1 => ?_, fun n hn => ?_⟩
 ·rw [key n hn, sumF_cons, sumF_nil]
  by_cases h : n = 0
  ·subst h; rfl
  ·rw [if_neg h, if_neg (by simp; omega)]; rfl
 ·simp only [List.mem_singleton] at he
  subst he
  rw [key n hn, if_pos (by simp at h1; omega)]
  simp
 ·rw [key n hn]
  by_cases h : n = 0
  ·exact .inr ⟨(0, 0), by simp, by simp [h], by simp [h]⟩
  ·rw [if_neg h]; exact .inl rfl
def moreW (base : Nat) (may : Nat → Bool) (cost : Nat → Int) (L : List (Nat × Int)) : List (Nat × Int) :=
 (List.range base).flatMap fun d => if may d then L.map fun e => (e.1 + d, e.2 + cost d) else []
theorem moreW_succ (base : Nat) (may : Nat → Bool) (cost : Nat → Int) (L : List (Nat × Int)) : moreW (base + 1) may cost L = moreW base may cost L ++ if may base then L.map fun e => (e.1 + base, e.2 + cost base) else [] := by
 unfold moreW
 rw [List.range_succ, List.flatMap_append]
 simp
theorem moreW_len (may : Nat → Bool) (cost : Nat → Int) (L : List (Nat × Int)) : ∀ base, (moreW base may cost L).length ≤ base * L.length
 | 0 => by simp [moreW]
 | base + 1 => by
  rw [moreW_succ, List.length_append, Nat.succ_mul]
  have := moreW_len may cost L base
  split <;> simp <;> omega
theorem sem_moreL {base : Nat} {may : Nat → Bool} {cost : Nat → Int} {s : List Wy} {L : List (Nat × Int)} (hs : Sem s L) (okS : Okw s) (hc : ∀ d, 0 ≤ cost d) (hb : ∀ e ∈ L, e.1 + base < 52 ∧ 0 ≤ e.2) (hbase : base ≤ 10)
  (hl : (base + 1) * L.length < 9223372036854775807) : Sem (moreL base may cost s) (moreW base may cost L) := by
 have key : ∀ m, m ≤ base → Sem ((List.range m).foldl (fun out d => if may d then addD d (cost d) s out else out) ((emptyL 0).set 0 ⟨1048576, 0⟩)) (moreW m may cost L) ∧ Okw ((List.range m).foldl (fun out d => if may d then addD d (cost d) s out else out) ((emptyL 0).set 0 ⟨1048576, 0⟩)) := by
  intro m
  induction m with
  | zero => intro _; exact ⟨sem_none, okw_set okw_empty (by simp) (by simp)⟩
  | succ m ih =>
   intro hm
   obtain ⟨ih1, ih2⟩ := ih (by omega)
   rw [List.range_succ, List.foldl_append, moreW_succ]
   simp only [List.foldl_cons, List.foldl_nil]
   by_cases h : may m
   ·rw [if_pos h, if_pos h]
    refine ⟨sem_addD hs ih1 okS ih2 (hc m) (fun e he => ⟨by have := hb e he; omega, (hb e he).2⟩) (by omega) ?_, okw_addD okS ih2 (hc m) (51 - m) (by omega)⟩
    have h1 := moreW_len may cost L m
    have h2 : m * L.length + L.length ≤ (base + 1) * L.length := by rw [← Nat.succ_mul]; exact Nat.mul_le_mul_right _ (by omega)
    omega
   ·rw [if_neg h, if_neg h, List.append_nil]
    exact ⟨ih1, ih2⟩
 exact (key base (Nat.le_refl _)).1
def topW (base : Nat) (ok : Nat → Bool) (cost : Nat → Int) (L : List (Nat × Int)) : List (Nat × Int) :=
 (L.filter fun e => ok e.1).map fun e => (e.1 / base, e.2 + cost (e.1 % base))
end Go.Proofs.YtpangdaijhiohaaGreatDoor.Kn

set_option linter.unusedSimpArgs false
set_option linter.unusedVariables false
set_option linter.unnecessarySimpa false
namespace Go.Proofs.YtpangdaijhiohaaGreatDoor.Kn
open Go Go.V
def topP (base : Nat) (ok : Nat → Bool) (cost : Nat → Int) (L : List (Nat × Int)) (N : Nat) : List (Nat × Int) :=
 (L.filter fun e => decide (e.1 < N) && ok e.1).map fun e => (e.1 / base, e.2 + cost (e.1 % base))
theorem topP_sum (base : Nat) (ok : Nat → Bool) (cost : Nat → Int) (L : List (Nat × Int)) (N : Nat) (g : Nat × Int → Nat) :
  sumF (topP base ok cost L (N + 1)) g = sumF (topP base ok cost L N) g + if ok N then sumF L (fun e => if e.1 = N then g (N / base, e.2 + cost (N % base)) else 0) else 0 := by
 unfold topP
 rw [sumF_map, sumF_map, sumF_filter, sumF_filter, sumF_if, ← sumF_add]
 refine sumF_congr fun e _ => ?_
 by_cases h : e.1 = N
 ·subst h
  by_cases h2 : ok e.1
  ·simp [h2]
  ·simp [h2]
 ·by_cases h2 : e.1 < N
  ·have h3 : e.1 < N + 1 := by omega
   simp [h, h2, h3]
  ·have h3 : ¬ e.1 < N + 1 := by omega
   simp [h, h2, h3]
theorem topP_mem (base : Nat) (ok : Nat → Bool) (cost : Nat → Int) (L : List (Nat × Int)) (N : Nat) (x : Nat × Int) :
  x ∈ topP base ok cost L (N + 1) ↔ x ∈ topP base ok cost L N ∨ (ok N = true ∧ ∃ e ∈ L, e.1 = N ∧ x = (N / base, e.2 + cost (N % base))) := by
 unfold topP
 simp only [List.mem_map, List.mem_filter, Bool.and_eq_true, decide_eq_true_eq]
 constructor
 ·rintro ⟨e, ⟨h1, h2, h3⟩, rfl⟩
  by_cases h : e.1 < N
  ·exact .inl ⟨e, ⟨h1, h, h3⟩, rfl⟩
  ·have : e.1 = N := by omega
   rw [this] at h3 ⊢
   exact .inr ⟨h3, e, h1, this, rfl⟩
 ·rintro (⟨e, ⟨h1, h2, h3⟩, rfl⟩ | ⟨h1, e, h2, h3, rfl⟩)
  ·exact ⟨e, ⟨h1, by omega, h3⟩, rfl⟩
  ·exact ⟨e, ⟨h2, by omega, by rw [h3]; exact h1⟩, by rw [h3]⟩
theorem sem_topN {b : Bk} {may : Nat → Nat → Nat → Bool} {carry : Nat → Nat → Bool} {p : Nat} {s : List Wy} {L : List (Nat × Int)} (hs : Sem s L) (okS : Okw s) (hB : 2 ≤ b.base.toNat) (hpos : ∀ e ∈ L, 0 ≤ e.2) (hl : 2 * L.length < 9223372036854775807) : ∀ N, N ≤ 51 →
  Sem ((List.range N).foldl (topN b may carry p s) ((emptyL 0).set 0 ⟨1048576, 0⟩)) (topP b.base.toNat (fun n => may b.cords.length p (n % b.base.toNat) && carry p (n / b.base.toNat)) (fun d => costL (topAt b p) d) L N) ∧
  Okw ((List.range N).foldl (topN b may carry p s) ((emptyL 0).set 0 ⟨1048576, 0⟩))
 | 0, _ => by
  have : topP b.base.toNat (fun n => may b.cords.length p (n % b.base.toNat) && carry p (n / b.base.toNat)) (fun d => costL (topAt b p) d) L 0 = [] := by simp [topP]
  rw [this]
  exact ⟨sem_none, okw_set okw_empty (by simp) (by simp)⟩
 | N + 1, h => by
  obtain ⟨ih1, ih2⟩ := sem_topN hs okS hB hpos hl N (by omega) (b := b) (may := may) (carry := carry) (p := p)
  generalize hok : (fun n => may b.cords.length p (n % b.base.toNat) && carry p (n / b.base.toNat)) = ok at ih1 ⊢
  generalize hco : (fun d : Nat => costL (topAt b p) d) = cost at ih1 ⊢
  generalize hnow : (List.range N).foldl (topN b may carry p s) ((emptyL 0).set 0 ⟨1048576, 0⟩) = now at ih1 ih2
  have hc0 : 0 ≤ cost (N % b.base.toNat) := by rw [← hco]; exact costL_nonneg _ _
  have hcN : costL (topAt b p) ((N % b.base.toNat : Nat) : Int) = cost (N % b.base.toNat) := by rw [← hco]
  have hokN : (may b.cords.length p (N % b.base.toNat) && carry p (N / b.base.toNat)) = ok N := by rw [← hok]
  have hq : N / b.base.toNat ≤ N := Nat.div_le_self _ _
  rw [List.range_succ, List.foldl_append, hnow]
  simp only [List.foldl_cons, List.foldl_nil, topN]
  rw [hokN, hcN]
  refine ⟨?_, ?_⟩
  ·by_cases hN : ok N = true
   ·rw [if_pos hN]
    have hlen : (topP b.base.toNat ok cost L N).length ≤ L.length := by
     unfold topP; rw [List.length_map]; exact List.length_filter_le _ _
    have hcnt : ∀ (M : List (Nat × Int)) (n : Nat), (sumF M fun e => if e.1 = n ∧ e.2 = 0 then 1 else 0) ≤ M.length := by
     intro M n
     rw [← sumF_len]
     exact sumF_le fun e _ => by split <;> omega
    have hat := fun n => at0_set now (N / b.base.toNat) n ⟨min (at0 now (N / b.base.toNat)).k ((at0 s N).k + cost (N % b.base.toNat)), if cost (N % b.base.toNat) = 0 then w64 ((at0 now (N / b.base.toNat)).r + (at0 s N).r) else (at0 now (N / b.base.toNat)).r⟩ ih2.len (by omega)
    refine ⟨fun n hn => ?_, fun n hn x hx h1 => ?_, fun n hn => ?_⟩
    ·rw [hat, topP_sum, if_pos hN]
     by_cases e : N / b.base.toNat = n
     ·rw [if_pos e]
      have e1 : (sumF L fun a => if a.1 = N then (if (N / b.base.toNat, a.2 + cost (N % b.base.toNat)).1 = n ∧ (N / b.base.toNat, a.2 + cost (N % b.base.toNat)).2 = 0 then 1 else 0) else 0) = if cost (N % b.base.toNat) = 0 then (sumF L fun e => if e.1 = N ∧ e.2 = 0 then 1 else 0) else 0 := by
       by_cases hz : cost (N % b.base.toNat) = 0
       ·rw [if_pos hz]
        refine sumF_congr fun a ha => ?_
        have := hpos a ha
        by_cases q : a.1 = N
        ·simp only [q, true_and, e, hz, Int.add_zero, if_true]
        ·simp [q]
       ·rw [if_neg hz]
        refine Eq.trans (sumF_congr (g := fun _ => 0) fun a ha => ?_) (sumF_zero L)
        have := hpos a ha
        by_cases q : a.1 = N
        ·rw [if_pos q, if_neg (by dsimp only; omega)]
        ·rw [if_neg q]
      rw [e1]
      subst e
      have i1 := ih1.r (N / b.base.toNat) (by omega)
      have i2 := hs.r N (by omega)
      have := hcnt (topP b.base.toNat ok cost L N) (N / b.base.toNat)
      have := hcnt L N
      dsimp only
      by_cases hz : cost (N % b.base.toNat) = 0
      ·simp only [if_pos hz]
       rw [i1, i2, w64_id (by omega)]
       omega
      ·simp only [if_neg hz]
       rw [i1]
       omega
     ·rw [if_neg e, ih1.r n hn]
      have : (sumF L fun a => if a.1 = N then (if (N / b.base.toNat, a.2 + cost (N % b.base.toNat)).1 = n ∧ (N / b.base.toNat, a.2 + cost (N % b.base.toNat)).2 = 0 then 1 else 0) else 0) = 0 := by
       refine Eq.trans (sumF_congr (g := fun _ => 0) fun a ha => ?_) (sumF_zero L)
       by_cases q : a.1 = N
       ·rw [if_pos q, if_neg (by dsimp only; omega)]
       ·rw [if_neg q]
      rw [this, Nat.add_zero]
    ·rw [hat]
     rcases (topP_mem _ _ _ _ _ _).1 hx with hx | ⟨_, a, ha, h2, rfl⟩
     ·have := ih1.lo n hn x hx h1
      split
      ·rename_i e
       subst e
       dsimp only
       omega
      ·exact this
     ·dsimp only at h1 ⊢
      rw [if_pos h1]
      have := hs.lo N (by omega) a ha h2
      dsimp only
      omega
    ·rw [hat]
     split
     ·rename_i e
      subst e
      dsimp only
      by_cases hle : (at0 now (N / b.base.toNat)).k ≤ (at0 s N).k + cost (N % b.base.toNat)
      ·rw [Int.min_eq_left hle]
       rcases ih1.ex _ hn with h | ⟨x, h1, h2, h3⟩
       ·exact .inl h
       ·exact .inr ⟨x, (topP_mem _ _ _ _ _ _).2 (.inl h1), h2, h3⟩
      ·rw [Int.min_eq_right (by omega)]
       have hk := ih2.k1 (N / b.base.toNat) hn
       rcases hs.ex N (by omega) with h | ⟨x, h1, h2, h3⟩
       ·simp only [at0] at hle h hk
        omega
       ·exact .inr ⟨(N / b.base.toNat, x.2 + cost (N % b.base.toNat)), (topP_mem _ _ _ _ _ _).2 (.inr ⟨hN, x, h1, h2, rfl⟩), rfl, by dsimp only; omega⟩
     ·rcases ih1.ex n hn with h | ⟨x, h1, h2, h3⟩
      ·exact .inl h
      ·exact .inr ⟨x, (topP_mem _ _ _ _ _ _).2 (.inl h1), h2, h3⟩
   ·rw [if_neg hN]
    refine ⟨fun n hn => ?_, fun n hn x hx h1 => ?_, fun n hn => ?_⟩
    ·rw [topP_sum, if_neg hN, Nat.add_zero]
     exact ih1.r n hn
    ·rcases (topP_mem _ _ _ _ _ _).1 hx with hx | ⟨h2, _⟩
     ·exact ih1.lo n hn x hx h1
     ·exact absurd h2 hN
    ·rcases ih1.ex n hn with h | ⟨x, h1, h2, h3⟩
     ·exact .inl h
     ·exact .inr ⟨x, (topP_mem _ _ _ _ _ _).2 (.inl h1), h2, h3⟩
  ·by_cases hN : ok N = true
   ·rw [if_pos hN]
    have a := okS.k0 N (by omega)
    have h0 := ih2.k0 (N / b.base.toNat) (by omega)
    have h1 := ih2.k1 (N / b.base.toNat) (by omega)
    exact okw_set ih2 (by dsimp only; omega) (by dsimp only; omega)
   ·rw [if_neg hN]
    exact ih2
theorem topP_all {base : Nat} {ok : Nat → Bool} {cost : Nat → Int} {L : List (Nat × Int)} {N : Nat} (h : ∀ e ∈ L, e.1 < N) : topP base ok cost L N = topW base ok cost L := by
 unfold topP topW
 congr 1
 apply List.filter_congr
 intro e he
 simp [h e he]
def colW (b : Bk) (may : Nat → Nat → Nat → Bool) (p : Nat) (L : List (Nat × Int)) : Nat → List (Nat × Int)
 | 0 => L
 | m + 1 => moreW b.base.toNat (may m p) (fun d => costL (spAt b m p) d) (colW b may p L m)
def stepW (b : Bk) (may : Nat → Nat → Nat → Bool) (carry : Nat → Nat → Bool) (p : Nat) (L : List (Nat × Int)) : List (Nat × Int) :=
 topW b.base.toNat (fun n => may b.cords.length p (n % b.base.toNat) && carry p (n / b.base.toNat)) (fun d => costL (topAt b p) d) (colW b may p L b.cords.length)
def solveW (b : Bk) (may : Nat → Nat → Nat → Bool) (carry : Nat → Nat → Bool) : Nat → List (Nat × Int) → List (Nat × Int)
 | 0, L => L
 | q + 1, L => solveW b may carry q (stepW b may carry q L)
theorem colL_succ (b : Bk) (may : Nat → Nat → Nat → Bool) (p : Nat) (s : List Wy) (m : Nat) : colL b may p s (m + 1) = moreL b.base.toNat (may m p) (fun d => costL (spAt b m p) d) (colL b may p s m) := by
 unfold colL
 rw [List.range_succ, List.foldl_append]
 rfl
theorem mem_moreW {base : Nat} {may : Nat → Bool} {cost : Nat → Int} {L : List (Nat × Int)} {x : Nat × Int} : x ∈ moreW base may cost L ↔ ∃ d, d < base ∧ may d = true ∧ ∃ e ∈ L, x = (e.1 + d, e.2 + cost d) := by
 unfold moreW
 simp only [List.mem_flatMap, List.mem_range]
 constructor
 ·rintro ⟨d, hd, hx⟩
  by_cases h : may d = true
  ·rw [if_pos h] at hx
   obtain ⟨e, he, rfl⟩ := List.mem_map.1 hx
   exact ⟨d, hd, h, e, he, rfl⟩
  ·rw [if_neg h] at hx; simp at hx
 ·rintro ⟨d, hd, h, e, he, rfl⟩
  exact ⟨d, hd, by rw [if_pos h]; exact List.mem_map.2 ⟨e, he, rfl⟩⟩
theorem sem_col {b : Bk} (hv : Val b) {may : Nat → Nat → Nat → Bool} {p : Nat} {s : List Wy} {L : List (Nat × Int)} (hs : Sem s L) (okS : Okw s) (hb : ∀ e ∈ L, e.1 ≤ b.cords.length ∧ 0 ≤ e.2) {M : Nat} (hL : L.length ≤ M) (hM : M ≤ 1000000000000) : ∀ m, m ≤ b.cords.length →
  Sem (colL b may p s m) (colW b may p L m) ∧ Okw (colL b may p s m) ∧ (∀ e ∈ colW b may p L m, e.1 ≤ b.cords.length + m * (b.base.toNat - 1) ∧ 0 ≤ e.2) ∧ (colW b may p L m).length ≤ 10 ^ m * M
 | 0, _ => ⟨hs, okS, by simpa [colW] using hb, by simpa [colW] using hL⟩
 | m + 1, h => by
  obtain ⟨hb1, hb2⟩ := hv.hb
  have hc4 := hv.hc
  obtain ⟨i1, i2, i3, i4⟩ := sem_col hv hs okS hb hL hM m (by omega) (may := may) (p := p)
  have hmm : m * (b.base.toNat - 1) ≤ 3 * 9 := Nat.mul_le_mul (by omega) (by omega)
  have hp : (10 : Nat) ^ m ≤ 1000 := by
   have : m = 0 ∨ m = 1 ∨ m = 2 ∨ m = 3 := by omega
   rcases this with rfl | rfl | rfl | rfl <;> decide
  have hlen : (colW b may p L m).length ≤ 1000 * 1000000000000 := Nat.le_trans i4 (Nat.mul_le_mul hp hM)
  have h11 : (b.base.toNat + 1) * (colW b may p L m).length ≤ 11 * (1000 * 1000000000000) := Nat.mul_le_mul (by omega) hlen
  rw [colL_succ]
  refine ⟨sem_moreL i1 i2 (fun d => costL_nonneg _ _) (fun e he => ⟨by have := i3 e he; omega, (i3 e he).2⟩) (by omega) (by omega), okw_moreL i2 (by omega) (fun d => costL_nonneg _ _), fun e he => ?_, ?_⟩
  ·obtain ⟨d, hd, _, a, ha, rfl⟩ := mem_moreW.1 he
   have := i3 a ha
   have := costL_nonneg (spAt b m p) d
   rw [Nat.succ_mul]
   dsimp only
   omega
  ·refine Nat.le_trans (moreW_len _ _ _ _) ?_
   refine Nat.le_trans (Nat.mul_le_mul (show b.base.toNat ≤ 10 by omega) i4) ?_
   rw [Nat.pow_succ, Nat.mul_comm (10 ^ m) 10, Nat.mul_assoc]
   exact Nat.le_refl _
theorem sem_step {b : Bk} (hv : Val b) {may : Nat → Nat → Nat → Bool} {carry : Nat → Nat → Bool} {p : Nat} {s : List Wy} {L : List (Nat × Int)} (hs : Sem s L) (okS : Okw s) (hb : ∀ e ∈ L, e.1 ≤ b.cords.length ∧ 0 ≤ e.2) {M : Nat} (hL : L.length ≤ M) (hM : M ≤ 1000000000000) :
  Sem (stepL b may carry p s) (stepW b may carry p L) ∧ Okw (stepL b may carry p s) ∧ (∀ e ∈ stepW b may carry p L, e.1 ≤ b.cords.length ∧ 0 ≤ e.2) ∧ (stepW b may carry p L).length ≤ 10000 * M := by
 obtain ⟨hb1, hb2⟩ := hv.hb
 have hc4 := hv.hc
 obtain ⟨i1, i2, i3, i4⟩ := sem_col hv hs okS hb hL hM b.cords.length (Nat.le_refl _) (may := may) (p := p)
 have hmm : b.cords.length * (b.base.toNat - 1) ≤ 4 * 9 := Nat.mul_le_mul (by omega) (by omega)
 have hp : (10 : Nat) ^ b.cords.length ≤ 10000 := by
  have : b.cords.length = 0 ∨ b.cords.length = 1 ∨ b.cords.length = 2 ∨ b.cords.length = 3 ∨ b.cords.length = 4 := by omega
  rcases this with h | h | h | h | h <;> rw [h] <;> decide
 have hlen : (colW b may p L b.cords.length).length ≤ 10000 * M := Nat.le_trans i4 (Nat.mul_le_mul_right _ hp)
 have hlen2 : 10000 * M ≤ 10000 * 1000000000000 := Nat.mul_le_mul_left _ hM
 obtain ⟨j1, j2⟩ := sem_topN i1 i2 (show 2 ≤ b.base.toNat by omega) (fun e he => (i3 e he).2) (by omega) 51 (Nat.le_refl _) (b := b) (may := may) (carry := carry) (p := p)
 rw [topP_all (fun e he => by have := i3 e he; omega)] at j1
 refine ⟨j1, j2, fun e he => ?_, ?_⟩
 ·unfold stepW topW at he
  obtain ⟨a, ha, rfl⟩ := List.mem_map.1 he
  have := i3 a (List.mem_filter.1 ha).1
  have := costL_nonneg (topAt b p) ((a.1 % b.base.toNat : Nat) : Int)
  refine ⟨?_, by dsimp only; omega⟩
  dsimp only
  have e1 : b.cords.length + b.cords.length * (b.base.toNat - 1) = b.cords.length * b.base.toNat := by
   obtain ⟨B, hB⟩ : ∃ B, b.base.toNat = B + 1 := ⟨b.base.toNat - 1, by omega⟩
   rw [hB, Nat.add_sub_cancel, Nat.mul_succ, Nat.add_comm]
  have : a.1 ≤ b.cords.length * b.base.toNat := by omega
  exact Nat.div_le_of_le_mul (by rw [Nat.mul_comm]; exact this)
 ·unfold stepW topW
  rw [List.length_map]
  exact Nat.le_trans (List.length_filter_le _ _) hlen
theorem sem_solve {b : Bk} (hv : Val b) {may : Nat → Nat → Nat → Bool} {carry : Nat → Nat → Bool} : ∀ (q : Nat) (s : List Wy) (L : List (Nat × Int)) (M : Nat), Sem s L → Okw s → (∀ e ∈ L, e.1 ≤ b.cords.length ∧ 0 ≤ e.2) → L.length ≤ M → 10000 ^ q * M ≤ 10000000000000000 →
  Sem (solveF b may carry q s) (solveW b may carry q L) ∧ ∀ e ∈ solveW b may carry q L, 0 ≤ e.2
 | 0, s, L, M, h1, _, h3, _, _ => ⟨h1, fun e he => (h3 e he).2⟩
 | q + 1, s, L, M, h1, h2, h3, h4, h5 => by
  have hq : 1 ≤ 10000 ^ q := Nat.one_le_pow _ _ (by omega)
  have hM : M ≤ 1000000000000 := by
   rw [Nat.pow_succ] at h5
   have : 1 * 10000 * M ≤ 10000 ^ q * 10000 * M := Nat.mul_le_mul_right _ (Nat.mul_le_mul_right _ hq)
   omega
  obtain ⟨i1, i2, i3, i4⟩ := sem_step hv h1 h2 h3 h4 hM (may := may) (carry := carry) (p := q)
  exact sem_solve hv q _ _ (10000 * M) i1 i2 i3 i4 (by rw [Nat.pow_succ, Nat.mul_assoc] at h5; exact h5)
theorem solveL_sem {b : Bk} (hv : Val b) (may : Nat → Nat → Nat → Bool) (carry : Nat → Nat → Bool) :
  (solveL b may carry).r = ((sumF (solveW b may carry b.places.toNat [(0, 0)]) fun e => if e.1 = 0 ∧ e.2 = 0 then 1 else 0 : Nat) : Int) ∧
  (∀ e ∈ solveW b may carry b.places.toNat [(0, 0)], e.1 = 0 → (solveL b may carry).k ≤ e.2) ∧
  ((solveL b may carry).k = 1048576 ∨ ∃ e ∈ solveW b may carry b.places.toNat [(0, 0)], e.1 = 0 ∧ e.2 = (solveL b may carry).k) := by
 have hp := hv.hp
 have h4 : 10000 ^ b.places.toNat * 1 ≤ 10000000000000000 := by
  have : b.places.toNat = 1 ∨ b.places.toNat = 2 ∨ b.places.toNat = 3 ∨ b.places.toNat = 4 := by omega
  rcases this with h | h | h | h <;> rw [h] <;> decide
 obtain ⟨h, _⟩ := sem_solve hv b.places.toNat (emptyL 0) [(0, 0)] 1 sem_one okw_empty (by simp) (by simp) h4 (may := may) (carry := carry)
 exact ⟨h.r 0 (by omega), h.lo 0 (by omega), h.ex 0 (by omega)⟩
end Go.Proofs.YtpangdaijhiohaaGreatDoor.Kn

set_option linter.unusedSimpArgs false
set_option linter.unusedVariables false
set_option linter.unnecessarySimpa false
namespace Go.Proofs.YtpangdaijhiohaaGreatDoor.Kn
open Go Go.V
theorem sumF_tup_last (N : Nat) : ∀ (j : Nat) (f : List Nat → Nat), sumF (tup (j + 1) N) f = sumF (tup j N) fun t => sumF (List.range N) fun n => f (t ++ [n])
 | 0, f => by
  rw [sumF_tup_succ]
  simp [tup, sumF_cons, sumF_nil]
 | j + 1, f => by
  rw [sumF_tup_succ, sumF_tup_succ]
  refine sumF_congr fun n _ => ?_
  rw [sumF_tup_last N j]
  rfl
theorem sumF_moreW (base : Nat) (may : Nat → Bool) (cost : Nat → Int) (L : List (Nat × Int)) (g : Nat × Int → Nat) :
  sumF (moreW base may cost L) g = sumF L fun e => sumF (List.range base) fun d => if may d then g (e.1 + d, e.2 + cost d) else 0 := by
 rw [moreW, sumF_flatMap, sumF_comm]
 refine sumF_congr fun d _ => ?_
 by_cases h : may d = true
 ·rw [if_pos h, sumF_map]
  exact sumF_congr fun e _ => by rw [if_pos h]
 ·rw [if_neg h, sumF_nil]
  exact (Eq.trans (sumF_congr (g := fun _ => 0) fun e _ => by rw [if_neg h]) (sumF_zero L)).symm
def colOK (may : Nat → Nat → Nat → Bool) (p : Nat) (j : Nat) (d : List Nat) : Bool := (List.range j).all fun c => may c p (d[c]?.getD default)
def colCost (b : Bk) (p : Nat) (j : Nat) (d : List Nat) : Int := (List.range j).foldl (fun a c => a + costL (spAt b c p) (d[c]?.getD default : Nat)) 0
theorem colOK_snoc (may : Nat → Nat → Nat → Bool) (p j n : Nat) (d : List Nat) (h : d.length = j) : colOK may p (j + 1) (d ++ [n]) = (colOK may p j d && may j p n) := by
 unfold colOK
 rw [List.range_succ, List.all_append]
 congr 1
 ·have : ∀ c, c ∈ List.range j → may c p ((d ++ [n])[c]?.getD default) = may c p (d[c]?.getD default) := by
   intro c hc
   have := List.mem_range.1 hc
   rw [List.getElem?_append_left (by omega)]
  rw [Bool.eq_iff_iff, List.all_eq_true, List.all_eq_true]
  exact ⟨fun h c hc => by rw [← this c hc]; exact h c hc, fun h c hc => by rw [this c hc]; exact h c hc⟩
 ·subst h
  simp
theorem colCost_snoc (b : Bk) (p j n : Nat) (d : List Nat) (h : d.length = j) : colCost b p (j + 1) (d ++ [n]) = colCost b p j d + costL (spAt b j p) n := by
 unfold colCost
 rw [List.range_succ, List.foldl_append]
 simp only [List.foldl_cons, List.foldl_nil]
 have h2 : (d ++ [n])[j]?.getD default = n := by subst h; simp
 rw [h2]
 congr 1
 have : ∀ (l : List Nat) (a : Int), (∀ c ∈ l, c < j) → l.foldl (fun a c => a + costL (spAt b c p) ((d ++ [n])[c]?.getD default : Nat)) a = l.foldl (fun a c => a + costL (spAt b c p) (d[c]?.getD default : Nat)) a := by
  intro l
  induction l with
  | nil => intro a _; rfl
  | cons x r ih =>
   intro a hx
   simp only [List.foldl_cons]
   rw [ih _ fun c hc => hx c (by simp [hc]), List.getElem?_append_left (by have := hx x (by simp); omega)]
 exact this _ _ fun c hc => List.mem_range.1 hc
theorem sumF_colW (b : Bk) (may : Nat → Nat → Nat → Bool) (p : Nat) (L : List (Nat × Int)) : ∀ (j : Nat) (g : Nat × Int → Nat),
  sumF (colW b may p L j) g = sumF L fun e => sumF (tup j b.base.toNat) fun d => if colOK may p j d then g (e.1 + d.sum, e.2 + colCost b p j d) else 0
 | 0, g => by
  refine sumF_congr fun e _ => ?_
  simp [tup, sumF_cons, sumF_nil, colOK, colCost]
 | j + 1, g => by
  rw [colW, sumF_moreW, sumF_colW b may p L j]
  refine sumF_congr fun e _ => ?_
  rw [sumF_tup_last]
  refine sumF_congr fun t ht => ?_
  have hl := (tup_mem.1 ht).1
  rw [sumF_if]
  refine sumF_congr fun n _ => ?_
  rw [colOK_snoc _ _ _ _ _ hl, colCost_snoc _ _ _ _ _ hl]
  simp only [List.sum_append, List.sum_cons, List.sum_nil, Nat.add_zero, Bool.and_eq_true]
  by_cases h1 : colOK may p j t = true
  ·by_cases h2 : may j p n = true
   ·simp only [h1, h2, if_true, and_self, Nat.add_assoc, Int.add_assoc]
   ·simp [h1, h2]
  ·simp [h1]
def carT (B : Nat) : Nat → List Nat → Nat
 | 0, _ => 0
 | k + 1, t => ((t.map (· / B ^ k)).sum + carT B k (t.map (· % B ^ k))) / B
def colT (B k : Nat) (t : List Nat) : Nat := (t.map (· / B ^ k)).sum + carT B k (t.map (· % B ^ k))
def okT (b : Bk) (may : Nat → Nat → Nat → Bool) (carry : Nat → Nat → Bool) : Nat → List Nat → Bool
 | 0, _ => true
 | k + 1, t => okT b may carry k (t.map (· % b.base.toNat ^ k)) && (colOK may (b.places.toNat - 1 - k) b.cords.length (t.map (· / b.base.toNat ^ k)) &&
   (may b.cords.length (b.places.toNat - 1 - k) (colT b.base.toNat k t % b.base.toNat) && carry (b.places.toNat - 1 - k) (colT b.base.toNat k t / b.base.toNat)))
def costT (b : Bk) : Nat → List Nat → Int
 | 0, _ => 0
 | k + 1, t => costT b k (t.map (· % b.base.toNat ^ k)) + colCost b (b.places.toNat - 1 - k) b.cords.length (t.map (· / b.base.toNat ^ k)) + costL (topAt b (b.places.toNat - 1 - k)) (colT b.base.toNat k t % b.base.toNat : Nat)
def LK (b : Bk) (may : Nat → Nat → Nat → Bool) (carry : Nat → Nat → Bool) : Nat → List (Nat × Int)
 | 0 => [(0, 0)]
 | k + 1 => stepW b may carry (b.places.toNat - 1 - k) (LK b may carry k)
theorem solveW_LK (b : Bk) (may : Nat → Nat → Nat → Bool) (carry : Nat → Nat → Bool) : ∀ q, q ≤ b.places.toNat → solveW b may carry q (LK b may carry (b.places.toNat - q)) = LK b may carry b.places.toNat
 | 0, _ => by rw [Nat.sub_zero]; rfl
 | q + 1, h => by
  have ih := solveW_LK b may carry q (by omega)
  rw [show b.places.toNat - q = (b.places.toNat - (q + 1)) + 1 by omega, LK, show b.places.toNat - 1 - (b.places.toNat - (q + 1)) = q by omega] at ih
  exact ih
theorem sumF_LK (b : Bk) (may : Nat → Nat → Nat → Bool) (carry : Nat → Nat → Bool) : ∀ (k : Nat) (f : Nat × Int → Nat),
  sumF (LK b may carry k) f = sumF (tup b.cords.length (b.base.toNat ^ k)) fun t => if okT b may carry k t then f (carT b.base.toNat k t, costT b k t) else 0
 | 0, f => by
  have h1 : ∀ m, sumF (tup m 1) (fun t => if okT b may carry 0 t then f (carT b.base.toNat 0 t, costT b 0 t) else 0) = f (0, 0) := by
   intro m
   induction m with
   | zero => simp [tup, sumF_cons, sumF_nil, okT, carT, costT]
   | succ m ih =>
    rw [sumF_tup_succ]
    simp only [List.range_one, sumF_cons, sumF_nil, Nat.add_zero]
    exact ih
  rw [Nat.pow_zero, h1]
  simp [LK, sumF_cons, sumF_nil]
 | k + 1, f => by
  rw [LK, stepW, topW, sumF_map, sumF_filter, sumF_colW, sumF_LK b may carry k, Nat.pow_succ, Nat.mul_comm, sumF_tup_mul]
  refine sumF_congr fun t ht => ?_
  obtain ⟨hl, hlt⟩ := tup_mem.1 ht
  rw [sumF_if]
  refine sumF_congr fun d hd => ?_
  obtain ⟨hl2, _⟩ := tup_mem.1 hd
  obtain ⟨e1, e2⟩ := comb_low (N := b.base.toNat ^ k) (d := d) (t := t) (by rw [hl, hl2]) hlt
  have e3 : colT b.base.toNat k (comb (b.base.toNat ^ k) d t) = carT b.base.toNat k t + d.sum := by
   unfold colT
   rw [e1, e2, Nat.add_comm]
  have e4 : carT b.base.toNat (k + 1) (comb (b.base.toNat ^ k) d t) = (carT b.base.toNat k t + d.sum) / b.base.toNat := by
   rw [← e3]
   rfl
  simp only [okT, costT, e1, e2, e3, e4]
  by_cases h1 : okT b may carry k t = true
  ·by_cases h2 : colOK may (b.places.toNat - 1 - k) b.cords.length d = true
   ·simp only [h1, h2, if_true, Bool.true_and]
   ·simp [h1, h2]
  ·simp [h1]
end Go.Proofs.YtpangdaijhiohaaGreatDoor.Kn

set_option linter.unusedSimpArgs false
set_option linter.unusedVariables false
set_option linter.unnecessarySimpa false
namespace Go.Proofs.YtpangdaijhiohaaGreatDoor.Kn
open Go Go.V
def isum (n : Nat) (f : Nat → Int) : Int := (List.range n).foldl (fun a i => a + f i) 0
theorem isum_zero (f : Nat → Int) : isum 0 f = 0 := rfl
theorem isum_succ (n : Nat) (f : Nat → Int) : isum (n + 1) f = isum n f + f n := by
 unfold isum
 rw [List.range_succ, List.foldl_append]
 rfl
theorem isum_congr {n : Nat} {f g : Nat → Int} (h : ∀ i, i < n → f i = g i) : isum n f = isum n g := by
 induction n with
 | zero => rfl
 | succ n ih => rw [isum_succ, isum_succ, ih fun i hi => h i (by omega), h n (by omega)]
theorem isum_add (n : Nat) (f g : Nat → Int) : (isum n fun i => f i + g i) = isum n f + isum n g := by
 induction n with
 | zero => rfl
 | succ n ih => rw [isum_succ, isum_succ, isum_succ, ih]; omega
theorem isum_const0 (n : Nat) : (isum n fun _ => 0) = 0 := by
 induction n with
 | zero => rfl
 | succ n ih => rw [isum_succ, ih]; rfl
theorem isum_comm (n m : Nat) (f : Nat → Nat → Int) : (isum n fun i => isum m (f i)) = isum m fun j => isum n fun i => f i j := by
 induction n with
 | zero =>
  have : (isum m fun j => isum 0 fun i => f i j) = isum m fun _ => 0 := isum_congr fun j _ => rfl
  rw [this, isum_const0]; rfl
 | succ n ih =>
  rw [isum_succ, ih, ← isum_add]
  exact isum_congr fun j _ => by rw [isum_succ]
theorem isum_nonneg {n : Nat} {f : Nat → Int} (h : ∀ i, i < n → 0 ≤ f i) : 0 ≤ isum n f := by
 induction n with
 | zero => exact Int.le_refl _
 | succ n ih =>
  rw [isum_succ]
  have := ih fun i hi => h i (by omega)
  have := h n (by omega)
  omega
theorem isum_eq0 {n : Nat} {f : Nat → Int} (h : ∀ i, i < n → 0 ≤ f i) : isum n f = 0 ↔ ∀ i, i < n → f i = 0 := by
 induction n with
 | zero => exact ⟨fun _ i hi => by omega, fun _ => rfl⟩
 | succ n ih =>
  rw [isum_succ]
  have h1 := isum_nonneg (n := n) (f := f) fun i hi => h i (by omega)
  have h2 := h n (by omega)
  have ih := ih fun i hi => h i (by omega)
  constructor
  ·intro e i hi
   rcases Nat.lt_or_ge i n with hl | hl
   ·exact ih.1 (by omega) i hl
   ·have : i = n := by omega
    subst this
    omega
  ·intro e
   have := ih.2 fun i hi => e i (by omega)
   have := e n (by omega)
   omega
theorem sum_divmod (N : Nat) (t : List Nat) : t.sum = (t.map (· / N)).sum * N + (t.map (· % N)).sum := by
 induction t with
 | nil => simp
 | cons x r ih =>
  simp only [List.sum_cons, List.map_cons, Nat.add_mul]
  have := Nat.div_add_mod x N
  rw [Nat.mul_comm] at this
  omega
theorem sum_div {N : Nat} (hN : 0 < N) (t : List Nat) : (t.map (· / N)).sum + (t.map (· % N)).sum / N = t.sum / N := by
 rw [sum_divmod N t, Nat.mul_comm, Nat.mul_add_div hN]
theorem sum_mod (N : Nat) (t : List Nat) : (t.map (· % N)).sum % N = t.sum % N := by
 rw [sum_divmod N t, Nat.mul_comm, Nat.mul_add_mod]
theorem carT_eq {B : Nat} (hB : 0 < B) : ∀ (k : Nat) (t : List Nat), (∀ x ∈ t, x < B ^ k) → carT B k t = t.sum / B ^ k
 | 0, t, h => by
  have : t.sum = 0 := by
   induction t with
   | nil => rfl
   | cons x r ih =>
    have := h x (by simp)
    rw [List.sum_cons, ih fun y hy => h y (by simp [hy])]
    simp at this
    omega
  simp [carT, this]
 | k + 1, t, h => by
  have hp : 0 < B ^ k := Nat.pow_pos hB
  rw [carT, carT_eq hB k _ (fun x hx => by
   obtain ⟨y, _, rfl⟩ := List.mem_map.1 hx
   exact Nat.mod_lt _ hp), sum_div hp, Nat.div_div_eq_div_mul, Nat.pow_succ]
theorem colT_eq {B : Nat} (hB : 0 < B) (k : Nat) (t : List Nat) : colT B k t = t.sum / B ^ k := by
 have hp : 0 < B ^ k := Nat.pow_pos hB
 rw [colT, carT_eq hB k _ (fun x hx => by
   obtain ⟨y, _, rfl⟩ := List.mem_map.1 hx
   exact Nat.mod_lt _ hp), sum_div hp]
theorem map_mod_mod {B k K : Nat} (h : k ≤ K) (t : List Nat) : (t.map (· % B ^ K)).map (· % B ^ k) = t.map (· % B ^ k) := by
 rw [List.map_map]
 apply List.map_congr_left
 intro x _
 exact Nat.mod_mod_of_dvd x (Nat.pow_dvd_pow B h)
theorem map_mod_self {N : Nat} {t : List Nat} (h : ∀ x ∈ t, x < N) : t.map (· % N) = t := by
 induction t with
 | nil => rfl
 | cons x r ih => rw [List.map_cons, Nat.mod_eq_of_lt (h x (by simp)), ih fun y hy => h y (by simp [hy])]
def dgN (b : Bk) (l : List Nat) (c p : Nat) : Nat := (l[c]?.getD default) / b.base.toNat ^ (b.places.toNat - 1 - p) % b.base.toNat
def carN (b : Bk) (l : List Nat) (p : Nat) : Nat := ((l.take b.cords.length).map (· % b.base.toNat ^ (b.places.toNat - p))).sum / b.base.toNat ^ (b.places.toNat - p)
def allOK (b : Bk) (may : Nat → Nat → Nat → Bool) (carry : Nat → Nat → Bool) (l : List Nat) : Bool :=
 (List.range b.places.toNat).all fun p => ((List.range (b.cords.length + 1)).all fun c => may c p (dgN b l c p)) && carry p (carN b l p)
def cordSp (b : Bk) (c p : Nat) : Sp := (cordAt b c)[p]?.getD default
def costN (b : Bk) (l : List Nat) : Int := isum (b.cords.length + 1) fun c => isum b.places.toNat fun p => costL (cordSp b c p) (dgN b l c p : Nat)
def okP (b : Bk) (may : Nat → Nat → Nat → Bool) (carry : Nat → Nat → Bool) (k : Nat) (u : List Nat) : Bool :=
 colOK may (b.places.toNat - 1 - k) b.cords.length (u.map (· / b.base.toNat ^ k)) &&
   (may b.cords.length (b.places.toNat - 1 - k) (colT b.base.toNat k u % b.base.toNat) && carry (b.places.toNat - 1 - k) (colT b.base.toNat k u / b.base.toNat))
def costP (b : Bk) (k : Nat) (u : List Nat) : Int :=
 colCost b (b.places.toNat - 1 - k) b.cords.length (u.map (· / b.base.toNat ^ k)) + costL (topAt b (b.places.toNat - 1 - k)) (colT b.base.toNat k u % b.base.toNat : Nat)
theorem okT_places (b : Bk) (may : Nat → Nat → Nat → Bool) (carry : Nat → Nat → Bool) : ∀ (K : Nat) (t : List Nat), (∀ x ∈ t, x < b.base.toNat ^ K) →
  (okT b may carry K t = true ↔ ∀ k, k < K → okP b may carry k (t.map (· % b.base.toNat ^ (k + 1))) = true)
 | 0, t, _ => ⟨fun _ k hk => by omega, fun _ => rfl⟩
 | K + 1, t, h => by
  by_cases hB : b.base.toNat = 0
  ·-- no number is below 0
   cases t with
   | nil =>
    have ih := okT_places b may carry K [] (by simp)
    show (okT b may carry K ([].map _) && okP b may carry K []) = true ↔ _
    rw [Bool.and_eq_true]
    simp only [List.map_nil] at ih ⊢
    rw [ih]
    constructor
    ·rintro ⟨h1, h2⟩ k hk
     rcases Nat.lt_or_ge k K with hl | hl
     ·exact h1 k hl
     ·have : k = K := by omega
      subst this
      exact h2
    ·intro h1
     exact ⟨fun k hk => h1 k (by omega), h1 K (by omega)⟩
   | cons x r =>
    have := h x (by simp)
    rw [hB, Nat.zero_pow (by omega)] at this
    omega
  ·have hp : 0 < b.base.toNat ^ K := Nat.pow_pos (by omega)
   have ih := okT_places b may carry K (t.map (· % b.base.toNat ^ K)) (fun x hx => by
    obtain ⟨y, _, rfl⟩ := List.mem_map.1 hx
    exact Nat.mod_lt _ hp)
   show (okT b may carry K (t.map (· % b.base.toNat ^ K)) && okP b may carry K t) = true ↔ _
   rw [Bool.and_eq_true, ih]
   constructor
   ·rintro ⟨h1, h2⟩ k hk
    rcases Nat.lt_or_ge k K with hl | hl
    ·have := h1 k hl
     rwa [map_mod_mod (by omega)] at this
    ·have : k = K := by omega
     subst this
     rw [map_mod_self h]
     exact h2
   ·intro h1
    refine ⟨fun k hk => ?_, ?_⟩
    ·rw [map_mod_mod (by omega)]
     exact h1 k (by omega)
    ·have := h1 K (by omega)
     rwa [map_mod_self h] at this
theorem costT_places (b : Bk) (hB : 0 < b.base.toNat) : ∀ (K : Nat) (t : List Nat), (∀ x ∈ t, x < b.base.toNat ^ K) →
  costT b K t = isum K fun k => costP b k (t.map (· % b.base.toNat ^ (k + 1)))
 | 0, t, _ => rfl
 | K + 1, t, h => by
  have hp : 0 < b.base.toNat ^ K := Nat.pow_pos hB
  have ih := costT_places b hB K (t.map (· % b.base.toNat ^ K)) (fun x hx => by
    obtain ⟨y, _, rfl⟩ := List.mem_map.1 hx
    exact Nat.mod_lt _ hp)
  rw [isum_succ, map_mod_self h, costT, ih, Int.add_assoc]
  rw [show costP b K t = _ from rfl, costP]
  congr 1
  exact isum_congr fun k hk => by rw [map_mod_mod (by omega)]
theorem place_digits {b : Bk} (hB : 0 < b.base.toNat) {t : List Nat} (ht : t.length = b.cords.length) {k : Nat} (hk : k < b.places.toNat) :
  (∀ c, c < b.cords.length → ((t.map (· % b.base.toNat ^ (k + 1))).map (· / b.base.toNat ^ k))[c]?.getD default = dgN b (t ++ [t.sum]) c (b.places.toNat - 1 - k)) ∧
  colT b.base.toNat k (t.map (· % b.base.toNat ^ (k + 1))) % b.base.toNat = dgN b (t ++ [t.sum]) b.cords.length (b.places.toNat - 1 - k) ∧
  colT b.base.toNat k (t.map (· % b.base.toNat ^ (k + 1))) / b.base.toNat = carN b (t ++ [t.sum]) (b.places.toNat - 1 - k) := by
 have e0 : b.places.toNat - 1 - (b.places.toNat - 1 - k) = k := by omega
 have e1 : b.places.toNat - (b.places.toNat - 1 - k) = k + 1 := by omega
 refine ⟨fun c hc => ?_, ?_, ?_⟩
 ·have hc2 : c < t.length := by omega
  unfold dgN
  rw [e0, List.getElem?_append_left hc2]
  simp only [List.getElem?_map, List.getElem?_eq_getElem hc2, Option.map_some, Option.getD_some]
  rw [Nat.pow_succ, Nat.mod_mul_right_div_self]
 ·unfold dgN
  rw [colT_eq hB, e0, ← ht, List.getElem?_append_right (Nat.le_refl _)]
  simp only [Nat.sub_self, List.getElem?_cons_zero, Option.getD_some]
  rw [← Nat.mod_mul_right_div_self, ← Nat.mod_mul_right_div_self, ← Nat.pow_succ, sum_mod]
 ·unfold carN
  rw [colT_eq hB, e1, ← ht, List.take_left, Nat.div_div_eq_div_mul, ← Nat.pow_succ]
theorem okT_all {b : Bk} (hB : 0 < b.base.toNat) (may : Nat → Nat → Nat → Bool) (carry : Nat → Nat → Bool) {t : List Nat} (ht : t ∈ tup b.cords.length (b.base.toNat ^ b.places.toNat)) :
  okT b may carry b.places.toNat t = allOK b may carry (t ++ [t.sum]) := by
 obtain ⟨hl, hlt⟩ := tup_mem.1 ht
 rw [Bool.eq_iff_iff, okT_places b may carry _ t hlt]
 unfold allOK
 rw [List.all_eq_true]
 have key : ∀ k, k < b.places.toNat → (okP b may carry k (t.map (· % b.base.toNat ^ (k + 1))) = true ↔
   (((List.range (b.cords.length + 1)).all fun c => may c (b.places.toNat - 1 - k) (dgN b (t ++ [t.sum]) c (b.places.toNat - 1 - k))) && carry (b.places.toNat - 1 - k) (carN b (t ++ [t.sum]) (b.places.toNat - 1 - k))) = true) := by
  intro k hk
  obtain ⟨d1, d2, d3⟩ := place_digits hB hl hk
  unfold okP colOK
  rw [d2, d3]
  simp only [Bool.and_eq_true, List.all_eq_true, List.mem_range]
  constructor
  ·rintro ⟨h1, h2, h3⟩
   refine ⟨fun c hc => ?_, h3⟩
   rcases Nat.lt_or_ge c b.cords.length with h | h
   ·rw [← d1 c h]; exact h1 c h
   ·rw [show c = b.cords.length by omega]; exact h2
  ·rintro ⟨h1, h3⟩
   exact ⟨fun c hc => by rw [d1 c hc]; exact h1 c (by omega), h1 _ (by omega), h3⟩
 constructor
 ·intro h p hp
  have hp := List.mem_range.1 hp
  have := (key (b.places.toNat - 1 - p) (by omega)).1 (h _ (by omega))
  rwa [show b.places.toNat - 1 - (b.places.toNat - 1 - p) = p by omega] at this
 ·intro h k hk
  exact (key k hk).2 (h _ (List.mem_range.2 (by omega)))
theorem isum_rev (n : Nat) (f : Nat → Int) : (isum n fun k => f (n - 1 - k)) = isum n f := by
 have key : ∀ m, m ≤ n → (isum m fun k => f (n - 1 - k)) + isum (n - m) f = isum n f := by
  intro m
  induction m with
  | zero => intro _; rw [isum_zero, Nat.sub_zero, Int.zero_add]
  | succ m ih =>
   intro h
   have := ih (by omega)
   rw [isum_succ]
   rw [show n - m = (n - (m + 1)) + 1 by omega, isum_succ] at this
   rw [show n - 1 - m = n - (m + 1) by omega]
   omega
 have := key n (Nat.le_refl _)
 rw [Nat.sub_self, isum_zero] at this
 omega
theorem costT_all {b : Bk} (hB : 0 < b.base.toNat) {t : List Nat} (ht : t ∈ tup b.cords.length (b.base.toNat ^ b.places.toNat)) :
  costT b b.places.toNat t = costN b (t ++ [t.sum]) := by
 obtain ⟨hl, hlt⟩ := tup_mem.1 ht
 rw [costT_places b hB _ t hlt]
 unfold costN
 rw [isum_comm]
 refine Eq.trans (isum_congr fun k hk => ?_) (isum_rev b.places.toNat _)
 obtain ⟨d1, d2, d3⟩ := place_digits hB hl hk
 unfold costP
 rw [d2, isum_succ]
 have e2 : cordSp b b.cords.length (b.places.toNat - 1 - k) = topAt b (b.places.toNat - 1 - k) := by simp [cordSp, cordAt, topAt]
 rw [e2]
 congr 1
 show isum b.cords.length _ = _
 refine isum_congr fun c hc => ?_
 rw [d1 c hc]
 have : cordSp b c (b.places.toNat - 1 - k) = spAt b c (b.places.toNat - 1 - k) := by
  unfold cordSp cordAt spAt
  rw [if_neg (by omega)]
 rw [this]
theorem tieN_at (B : Nat) : ∀ (P n p : Nat), p < P → (tieN B P n)[p]?.getD default = ((n / B ^ (P - 1 - p) % B : Nat) : Int)
 | 0, _, _, h => by omega
 | P + 1, n, p, h => by
  rcases Nat.lt_or_ge p P with hl | hl
  ·rw [tieN, List.getElem?_append_left (by rw [tieN_len]; exact hl), tieN_at B P _ p hl, Nat.div_div_eq_div_mul, Nat.mul_comm, ← Nat.pow_succ]
   congr 4
   omega
  ·have : p = P := by omega
   subst this
   rw [tieN, List.getElem?_append_right (by rw [tieN_len]; omega), tieN_len]
   simp
theorem costL_zero {s : Sp} {d : Int} : costL s d = 0 ↔ within d s.lo s.hi = true := by
 unfold costL within
 simp only [decide_eq_true_eq]
 omega
theorem fits_cost {b : Bk} (hv : Val b) {c : Nat} (hc : c ≤ b.cords.length) (l : List Nat) : fitsL (cordAt b c) (tieN b.base.toNat b.places.toNat (l[c]?.getD default)) = true ↔ (isum b.places.toNat fun p => costL (cordSp b c p) (dgN b l c p : Nat)) = 0 := by
 have hlen := (cordAt_val hv hc).1
 rw [isum_eq0 fun p _ => costL_nonneg _ _]
 unfold fitsL
 rw [List.all_eq_true]
 have hl2 : (cordAt b c).length = b.places.toNat := by omega
 rw [hl2]
 constructor
 ·intro h p hp
  have := h p (List.mem_range.2 hp)
  rw [tieN_at _ _ _ _ hp] at this
  exact costL_zero.2 this
 ·intro h p hp
  have hp := List.mem_range.1 hp
  rw [tieN_at _ _ _ _ hp]
  exact costL_zero.1 (h p hp)
theorem sumF_sumsN (b : Bk) (freely : Bool) : ∀ (k : Nat) (first : List Nat) (g : List Nat → Nat),
  sumF (sumsN b freely k first) g = sumF (tup k (allN b)) fun t => if ((List.range k).all fun c => isN b (first.length + c) freely (t[c]?.getD default)) && (decide ((first ++ t).sum < allN b) && (freely || fitsL b.top (tieN b.base.toNat b.places.toNat (first ++ t).sum))) then g (first ++ t ++ [(first ++ t).sum]) else 0
 | 0, first, g => by
  simp only [sumsN, tup, sumF_cons, sumF_nil, List.range_zero, List.all_nil, Bool.true_and, List.append_nil, Nat.add_zero]
  split
  ·rw [sumF_cons, sumF_nil, Nat.add_zero]
  ·rfl
 | k + 1, first, g => by
  rw [sumsN, sumF_flatMap, sumF_filter, sumF_tup_succ]
  refine sumF_congr fun n _ => ?_
  rw [sumF_sumsN b freely k (first ++ [n]) g, sumF_if]
  refine sumF_congr fun t _ => ?_
  have e : ((List.range (k + 1)).all fun c => isN b (first.length + c) freely ((n :: t)[c]?.getD default)) = (isN b first.length freely n && (List.range k).all fun c => isN b ((first ++ [n]).length + c) freely (t[c]?.getD default)) := by
   rw [List.range_succ_eq_map, List.all_cons, List.all_map]
   simp only [Nat.add_zero, List.getElem?_cons_zero, Option.getD_some]
   congr 2
   funext c
   simp only [Function.comp_apply, List.getElem?_cons_succ, List.length_append, List.length_cons, List.length_nil]
   rw [show first.length + c.succ = first.length + (0 + 1) + c by omega]
  rw [e]
  simp only [List.append_assoc, List.singleton_append]
  by_cases h : isN b first.length freely n = true
  ·simp [h]
  ·simp [h]
theorem mem_of_sumF {α : Type} [DecidableEq α] (l : List α) (a : α) : 0 < (sumF l fun x => if x = a then 1 else 0) ↔ a ∈ l := by
 rw [sumF_pos]
 constructor
 ·rintro ⟨x, hx, h⟩
  by_cases e : x = a
  ·subst e; exact hx
  ·rw [if_neg e] at h; omega
 ·intro h
  exact ⟨a, h, by simp⟩
theorem solveL_r {b : Bk} (hv : Val b) (may : Nat → Nat → Nat → Bool) (carry : Nat → Nat → Bool) :
  (solveL b may carry).r = ((sumF (allNs b) fun l => if allOK b may carry l then 1 else 0 : Nat) : Int) := by
 have hB : 0 < b.base.toNat := by have := hv.hb; omega
 have hp : 0 < b.base.toNat ^ b.places.toNat := Nat.pow_pos hB
 rw [(solveL_sem hv may carry).1]
 have h0 := solveW_LK b may carry b.places.toNat (Nat.le_refl _)
 rw [Nat.sub_self] at h0
 rw [show [((0 : Nat), (0 : Int))] = LK b may carry 0 from rfl, h0, sumF_LK, allNs, sumF_sumsN]
 congr 1
 refine sumF_congr fun t ht => ?_
 have hl := (tup_mem.1 ht).1
 rw [okT_all hB may carry ht, costT_all hB ht, carT_eq hB _ _ (tup_mem.1 ht).2]
 simp only [List.nil_append, Bool.false_or, List.length_nil, Nat.zero_add]
 have e1 : t.sum / b.base.toNat ^ b.places.toNat = 0 ↔ t.sum < allN b := by
  unfold allN
  rw [Nat.div_eq_zero_iff]
  constructor
  ·rintro (h | h)
   ·omega
   ·exact h
  ·exact .inr
 have hnn : ∀ c, 0 ≤ isum b.places.toNat fun p => costL (cordSp b c p) (dgN b (t ++ [t.sum]) c p : Nat) := fun c => isum_nonneg fun p _ => costL_nonneg _ _
 have e2 : costN b (t ++ [t.sum]) = 0 ↔ (((List.range b.cords.length).all fun c => isN b c false (t[c]?.getD default)) && fitsL b.top (tieN b.base.toNat b.places.toNat t.sum)) = true := by
  unfold costN
  rw [isum_eq0 fun c _ => hnn c, Bool.and_eq_true, List.all_eq_true]
  have k1 : ∀ c, c < b.cords.length → (t ++ [t.sum])[c]?.getD default = t[c]?.getD default := fun c hc => by rw [List.getElem?_append_left (by omega)]
  have k2 : (t ++ [t.sum])[b.cords.length]?.getD default = t.sum := by rw [← hl, List.getElem?_append_right (Nat.le_refl _)]; simp
  constructor
  ·intro h
   refine ⟨fun c hc => ?_, ?_⟩
   ·have hc := List.mem_range.1 hc
    unfold isN
    rw [Bool.false_or, ← k1 c hc]
    exact (fits_cost hv (by omega) _).2 (h c (by omega))
   ·have := (fits_cost hv (Nat.le_refl _) (t ++ [t.sum])).2 (h _ (by omega))
    rw [k2] at this
    simpa [cordAt] using this
  ·rintro ⟨h1, h2⟩ c hc
   rcases Nat.lt_or_ge c b.cords.length with h | h
   ·have := h1 c (List.mem_range.2 h)
    unfold isN at this
    rw [Bool.false_or, ← k1 c h] at this
    exact (fits_cost hv (by omega) _).1 this
   ·have hc2 : c = b.cords.length := by omega
    subst hc2
    refine (fits_cost hv (Nat.le_refl _) (t ++ [t.sum])).1 ?_
    rw [k2]
    simpa [cordAt] using h2
 simp only [e1, e2]
 by_cases q1 : allOK b may carry (t ++ [t.sum]) = true
 ·simp only [q1, if_true]
  by_cases q2 : t.sum < allN b
  ·simp only [q2, true_and, decide_true, Bool.true_and]
  ·simp [q2]
 ·simp [q1]
theorem solveL_k {b : Bk} (hv : Val b) (may : Nat → Nat → Nat → Bool) (carry : Nat → Nat → Bool) :
  (∀ l ∈ sumsN b true b.cords.length [], allOK b may carry l = true → (solveL b may carry).k ≤ costN b l) ∧
  ((solveL b may carry).k = 1048576 ∨ ∃ l ∈ sumsN b true b.cords.length [], allOK b may carry l = true ∧ costN b l = (solveL b may carry).k) := by
 have hB : 0 < b.base.toNat := by have := hv.hb; omega
 have hp : 0 < b.base.toNat ^ b.places.toNat := Nat.pow_pos hB
 obtain ⟨_, s2, s3⟩ := solveL_sem hv may carry
 have h0 := solveW_LK b may carry b.places.toNat (Nat.le_refl _)
 rw [Nat.sub_self] at h0
 rw [show [((0 : Nat), (0 : Int))] = LK b may carry 0 from rfl, h0] at s2 s3
 have e1 : ∀ t : List Nat, t.sum / b.base.toNat ^ b.places.toNat = 0 ↔ t.sum < allN b := by
  intro t
  unfold allN
  rw [Nat.div_eq_zero_iff]
  constructor
  ·rintro (h | h)
   ·omega
   ·exact h
  ·exact .inr
 have m1 : ∀ x : Nat × Int, x ∈ LK b may carry b.places.toNat ↔ ∃ t ∈ tup b.cords.length (allN b), allOK b may carry (t ++ [t.sum]) = true ∧ x = (t.sum / b.base.toNat ^ b.places.toNat, costN b (t ++ [t.sum])) := by
  intro x
  rw [← mem_of_sumF, sumF_LK, sumF_pos]
  constructor
  ·rintro ⟨t, ht, h⟩
   refine ⟨t, ht, ?_⟩
   rw [okT_all hB may carry ht, costT_all hB ht, carT_eq hB _ _ (tup_mem.1 ht).2] at h
   by_cases q : allOK b may carry (t ++ [t.sum]) = true
   ·refine ⟨q, ?_⟩
    rw [if_pos q] at h
    by_cases q2 : (t.sum / b.base.toNat ^ b.places.toNat, costN b (t ++ [t.sum])) = x
    ·exact q2.symm
    ·rw [if_neg q2] at h; omega
   ·rw [if_neg q] at h; omega
  ·rintro ⟨t, ht, h1, h2⟩
   refine ⟨t, ht, ?_⟩
   rw [okT_all hB may carry ht, costT_all hB ht, carT_eq hB _ _ (tup_mem.1 ht).2, if_pos h1, if_pos h2.symm]
   omega
 have m2 : ∀ l : List Nat, l ∈ sumsN b true b.cords.length [] ↔ ∃ t ∈ tup b.cords.length (allN b), t.sum < allN b ∧ l = t ++ [t.sum] := by
  intro l
  rw [← mem_of_sumF, sumF_sumsN, sumF_pos]
  have e3 : ∀ t : List Nat, ((List.range b.cords.length).all fun c => isN b (([] : List Nat).length + c) true (t[c]?.getD default)) = true := by
   intro t
   rw [List.all_eq_true]
   intro c _
   rfl
  constructor
  ·rintro ⟨t, ht, h⟩
   rw [e3] at h
   simp only [List.nil_append, Bool.true_or, Bool.and_true, Bool.true_and, decide_eq_true_eq] at h
   refine ⟨t, ht, ?_⟩
   by_cases q : t.sum < allN b
   ·rw [if_pos q] at h
    by_cases q2 : t ++ [t.sum] = l
    ·exact ⟨q, q2.symm⟩
    ·rw [if_neg q2] at h; omega
   ·rw [if_neg q] at h; omega
  ·rintro ⟨t, ht, h1, h2⟩
   refine ⟨t, ht, ?_⟩
   rw [e3]
   simp only [List.nil_append, Bool.true_or, Bool.and_true, Bool.true_and, decide_eq_true_eq]
   rw [if_pos h1, if_pos h2.symm]
   omega
 refine ⟨fun l hl ho => ?_, ?_⟩
 ·obtain ⟨t, ht, h1, rfl⟩ := (m2 l).1 hl
  have := s2 (t.sum / b.base.toNat ^ b.places.toNat, costN b (t ++ [t.sum])) ((m1 _).2 ⟨t, ht, ho, rfl⟩) ((e1 t).2 h1)
  exact this
 ·rcases s3 with h | ⟨x, hx, h1, h2⟩
  ·exact .inl h
  ·obtain ⟨t, ht, ho, rfl⟩ := (m1 x).1 hx
   exact .inr ⟨t ++ [t.sum], (m2 _).2 ⟨t, ht, (e1 t).1 h1, rfl⟩, ho, h2⟩
end Go.Proofs.YtpangdaijhiohaaGreatDoor.Kn

set_option linter.unusedSimpArgs false
set_option linter.unusedVariables false
set_option linter.unnecessarySimpa false
namespace Go.Proofs.YtpangdaijhiohaaGreatDoor.Kn
open Go Go.V
def bkK : Bk := ⟨10, 2, [[⟨1, 1⟩, ⟨2, 3⟩], [⟨0, 1⟩, ⟨5, 5⟩]], [⟨2, 2⟩, ⟨7, 8⟩]⟩
def bkL : Bk := ⟨10, 1, [[⟨3, 3⟩], [⟨4, 4⟩]], [⟨9, 9⟩]⟩
theorem ckK : checkB bkK = true := by kernel_rfl
theorem smK : Small bkK := ⟨by decide, by decide, by decide⟩
theorem allK : allNs bkK = [[12, 15, 27], [13, 15, 28]] := by kernel_rfl
def manyR (b : Bk) (L : List (List Nat)) (may : Nat → Nat → Nat → Bool) (carry : Nat → Nat → Bool) (c p d : Nat) : Int := ((sumF L fun l => if allOK b (onlyF may c p d) carry l then 1 else 0 : Nat) : Int)
def spanR (b : Bk) (L : List (List Nat)) (may : Nat → Nat → Nat → Bool) (carry : Nat → Nat → Bool) (cord place : Nat) (m : Nat) : Sp :=
 (List.range m).foldl (fun s d => if 0 < manyR b L may carry cord place d then ⟨min s.lo d, max s.hi d⟩ else s) ⟨b.base, 0⟩
def endR (b : Bk) (L : List (List Nat)) (carry : Nat → Nat → Bool) (cord : Nat) (sel : Sp → Int) : Nat → Nat → (Nat → Nat → Nat → Bool) → Int → Int
 | _, 0, _, n => n
 | p, k + 1, may, n => endR b L carry cord sel (p + 1) k (onlyF may cord p (sel (spanR b L may carry cord p b.base.toNat)).toNat) (numL b.base [n, sel (spanR b L may carry cord p b.base.toNat)])
theorem manyD_R {b : Bk} (hv : Val b) (may : Nat → Nat → Nat → Bool) (carry : Nat → Nat → Bool) (c p d : Nat) : manyD b may carry c p d = manyR b (allNs b) may carry c p d := solveL_r hv _ _
theorem spanD_R {b : Bk} (hv : Val b) (may : Nat → Nat → Nat → Bool) (carry : Nat → Nat → Bool) (c p m : Nat) : spanD b may carry c p m = spanR b (allNs b) may carry c p m := by
 unfold spanD spanR
 congr 1
 funext s d
 rw [manyD_R hv]
theorem endF_R {b : Bk} (hv : Val b) (carry : Nat → Nat → Bool) (cord : Nat) (sel : Sp → Int) : ∀ (k p : Nat) (may : Nat → Nat → Nat → Bool) (n : Int), endF b carry cord sel p k may n = endR b (allNs b) carry cord sel p k may n
 | 0, _, _, _ => rfl
 | k + 1, p, may, n => by
  rw [endF, endR, spanD_R hv, endF_R hv carry cord sel k]
theorem ag25 : aggOf Tryz.prog 25 = some true := by kernel_rfl
theorem sz25 : szOf Tryz.prog 25 = some 4 := by kernel_rfl
attribute [go_sem] ag25 sz25
theorem c44 : Ctr Tryz.prog 44 [] (.tup [KB bkK, KB bkL]) := by
 refine ctr_of_wp hmix Tryz.func44 m44 rfl ?_
 unfold v44
 simp -failIfUnchanged (disch := first|omega|(simp [wcs_len]<;>omega)|fail) only [go_sem,simprocAttr]
 try rfl
end Go.Proofs.YtpangdaijhiohaaGreatDoor.Kn

set_option linter.unusedSimpArgs false
set_option linter.unusedVariables false
set_option linter.unnecessarySimpa false
namespace Go.Proofs.YtpangdaijhiohaaGreatDoor.Kn
open Go Go.V
def hugeB (b : Bk) : Bool := decide (40 < (b.cords.length : Int)) || (decide (40 < (b.top.length : Int)) || b.cords.any fun l => decide (40 < (l.length : Int)))
theorem small_of_huge {b : Bk} (h : hugeB b = false) : b.cords.length ≤ 40 ∧ b.top.length ≤ 40 ∧ ∀ l ∈ b.cords, l.length ≤ 40 := by
 simp only [hugeB, Bool.or_eq_false_iff, decide_eq_false_iff_not, List.any_eq_false, decide_eq_true_eq] at h
 obtain ⟨h1, h2, h3⟩ := h
 exact ⟨by omega, by omega, fun l hl => by have := h3 l hl; omega⟩
theorem small_small {b : Bk} (h : hugeB b = false) : Small b := by
 obtain ⟨h1, h2, h3⟩ := small_of_huge h
 exact ⟨by omega, by omega, fun l hl => by have := h3 l hl; omega⟩
theorem ag25' : aggOf Tryz.prog 25 = some true := by kernel_rfl
theorem sz25' : szOf Tryz.prog 25 = some 4 := by kernel_rfl
attribute [go_sem] ag25' sz25'
end Go.Proofs.YtpangdaijhiohaaGreatDoor.Kn

set_option linter.unusedSimpArgs false
set_option linter.unusedVariables false
set_option linter.unnecessarySimpa false
namespace Go.Proofs.YtpangdaijhiohaaGreatDoor.Kn
open Go Go.V
theorem allOK_iff (b : Bk) (may : Nat → Nat → Nat → Bool) (carry : Nat → Nat → Bool) (l : List Nat) : allOK b may carry l = true ↔ ∀ p, p < b.places.toNat → (∀ c, c < b.cords.length + 1 → may c p (dgN b l c p) = true) ∧ carry p (carN b l p) = true := by
 unfold allOK
 simp only [List.all_eq_true, List.mem_range, Bool.and_eq_true]
theorem allOK_only {b : Bk} {may : Nat → Nat → Nat → Bool} {carry : Nat → Nat → Bool} {c p d : Nat} (hc : c ≤ b.cords.length) (hp : p < b.places.toNat) (l : List Nat) :
  allOK b (onlyF may c p d) carry l = (allOK b may carry l && decide (dgN b l c p = d)) := by
 rw [Bool.eq_iff_iff, Bool.and_eq_true, allOK_iff, allOK_iff, decide_eq_true_eq]
 constructor
 ·intro h
  refine ⟨fun q hq => ⟨fun e he => ?_, (h q hq).2⟩, ?_⟩
  ·have := (h q hq).1 e he
   simp only [onlyF, Bool.and_eq_true] at this
   exact this.1
  ·have := (h p hp).1 c (by omega)
   simp only [onlyF, Bool.and_eq_true, Bool.or_eq_true, decide_eq_true_eq] at this
   rcases this.2 with h | h | h
   ·exact absurd trivial h
   ·exact absurd trivial h
   ·exact h
 ·rintro ⟨h, h2⟩ q hq
  refine ⟨fun e he => ?_, (h q hq).2⟩
  simp only [onlyF, Bool.and_eq_true, (h q hq).1 e he, true_and, Bool.or_eq_true, decide_eq_true_eq]
  by_cases e1 : e = c
  ·by_cases e2 : q = p
   ·subst e1 e2; exact .inr (.inr h2)
   ·exact .inr (.inl e2)
  ·exact .inl e1
theorem allOK_yes (b : Bk) (l : List Nat) : allOK b yes3 yes2 l = true := by
 rw [allOK_iff]
 exact fun _ _ => ⟨fun _ _ => rfl, rfl⟩
theorem take_snoc {α : Type} [Inhabited α] {l : List α} {k : Nat} (h : k < l.length) : l.take (k + 1) = l.take k ++ [l[k]?.getD default] := by
 rw [List.take_add_one, List.getElem?_eq_getElem h]
 rfl
theorem many_len {b : Bk} (hv : Val b) : (solveL b yes3 yes2).r = (allNs b).length := by
 rw [solveL_r hv, ← sumF_len]
 congr 1
 exact sumF_congr fun l _ => by rw [allOK_yes]; rfl
end Go.Proofs.YtpangdaijhiohaaGreatDoor.Kn

set_option linter.unusedSimpArgs false
set_option linter.unusedVariables false
set_option linter.unnecessarySimpa false
namespace Go.Proofs.YtpangdaijhiohaaGreatDoor.Kn
open Go Go.V
end Go.Proofs.YtpangdaijhiohaaGreatDoor.Kn

set_option linter.unusedSimpArgs false
set_option linter.unusedVariables false
set_option linter.unnecessarySimpa false
namespace Go.Proofs.YtpangdaijhiohaaGreatDoor.Kn
open Go Go.V
theorem allC_at {b : Bk} (c : Nat) (h : c ≤ b.cords.length) : (allC b)[c]?.getD default = cordAt b c := by
 unfold allC cordAt
 split
 ·next e => subst e; simp
 ·next e =>
  rw [List.getElem?_append_left (by omega)]
def tieR (b : Bk) (n : Int) : List Int × Int := if checkB b then if within n 0 ((allN b : Int) - 1) then (tieN b.base.toNat b.places.toNat n.toNat, 0) else ([], 1) else ([], 110)
theorem c33r (b : Bk) (hs : Small b) (n : Int) : Ctr Tryz.prog 33 [KB b, .int n] (.tup [IS (tieR b n).1, .int (tieR b n).2]) := by
 have := c33t b hs n
 unfold tieR
 cases hc : checkB b with
 | false => simpa [hc, IS] using this
 | true =>
  have hv := val_of_check hc
  obtain ⟨hp1, hp2⟩ := hv.hp
  have hall := allN_le hv
  have e : w64 (mostT b (min 4 (max 0 b.places)).toNat - 1) = (allN b : Int) - 1 := by
   have : (min 4 (max 0 b.places)).toNat = b.places.toNat := by omega
   rw [this, (mostT_eq hv.hb _ (by omega)).1]
   have : allN b = b.base.toNat ^ b.places.toNat := rfl
   rw [← this, w64_id] <;> omega
  rw [e] at this
  cases hw : within n 0 ((allN b : Int) - 1) with
  | false => simpa [hc, hw, IS] using this
  | true => simpa [hc, hw, IS] using this
end Go.Proofs.YtpangdaijhiohaaGreatDoor.Kn

set_option linter.unusedSimpArgs false
set_option linter.unusedVariables false
set_option linter.unnecessarySimpa false
namespace Go.Proofs.YtpangdaijhiohaaGreatDoor.Kn
open Go Go.V
end Go.Proofs.YtpangdaijhiohaaGreatDoor.Kn

set_option linter.unusedSimpArgs false
set_option linter.unusedVariables false
set_option linter.unnecessarySimpa false
namespace Go.Proofs.YtpangdaijhiohaaGreatDoor.Kn
open Go Go.V
theorem numL_tie (B : Nat) (hB : 2 ≤ B ∧ B ≤ 10) : ∀ P n, P ≤ 4 → n < B ^ P → numL (B : Int) (tieN B P n) = n
 | 0, n, _, h => by
  have : n = 0 := by simpa using h
  subst this
  rfl
 | P + 1, n, hP, h => by
  have hn : n / B < B ^ P := by
   rw [Nat.div_lt_iff_lt_mul (by omega), ← Nat.pow_succ]
   exact h
  have hle : B ^ (P + 1) ≤ 10000 := pow_le hB.2 hP
  have ih := numL_tie B hB P (n / B) (by omega) hn
  have e : numL (B : Int) (tieN B (P + 1) n) = w64 (w64 (((n / B : Nat) : Int) * B) + ((n % B : Nat) : Int)) := by
   show numL (B : Int) (tieN B P (n / B) ++ [((n % B : Nat) : Int)]) = _
   unfold numL at ih ⊢
   rw [List.foldl_append, ih]
   rfl
  have hd : B * (n / B) + n % B = n := Nat.div_add_mod n B
  have hm : B * (n / B) ≤ n := by omega
  have e2 : ((n / B : Nat) : Int) * B = ((B * (n / B) : Nat) : Int) := by rw [Nat.mul_comm]; exact (Int.natCast_mul _ _).symm
  rw [e, e2, w64_id (n := ((B * (n / B) : Nat) : Int)) (by omega), w64_id (n := ((B * (n / B) : Nat) : Int) + ((n % B : Nat) : Int)) (by omega)]
  omega
theorem tie_inj {B : Nat} (hB : 2 ≤ B ∧ B ≤ 10) {P n m : Nat} (hP : P ≤ 4) (hn : n < B ^ P) (hm : m < B ^ P) (h : tieN B P n = tieN B P m) : n = m := by
 have h1 := numL_tie B hB P n hP hn
 rw [h, numL_tie B hB P m hP hm] at h1
 omega
theorem tie_dig {B : Nat} (hB : 2 ≤ B) : ∀ P n, ∀ d ∈ tieN B P n, 0 ≤ d ∧ d < B
 | 0, n, d, h => by simp [tieN] at h
 | P + 1, n, d, h => by
  rw [tieN] at h
  rcases List.mem_append.1 h with h | h
  ·exact tie_dig hB P _ d h
  ·simp only [List.mem_singleton] at h
   subst h
   have := Nat.mod_lt n (show 0 < B by omega)
   omega
end Go.Proofs.YtpangdaijhiohaaGreatDoor.Kn

set_option linter.unusedSimpArgs false
set_option linter.unusedVariables false
set_option linter.unnecessarySimpa false
namespace Go.Proofs.YtpangdaijhiohaaGreatDoor.Kn
open Go Go.V
abbrev RS (r : List (List Int)) : AV := .sl 1 (r.map IS) .sh
def sumW (base : Int) (r : List (List Int)) : Int := r.foldl (fun n x => w64 (n + numL base x)) 0
theorem sumW_snoc (base : Int) (r : List (List Int)) (x : List Int) : sumW base (r ++ [x]) = w64 (sumW base r + numL base x) := by
 simp [sumW, List.foldl_append]
def isSumB (b : Bk) (r : List (List Int)) : Bool := decide (r.length = b.cords.length + 1) && (r.all (areDig b) && decide (sumW b.base (r.take b.cords.length) = numL b.base (r[b.cords.length]?.getD default)))
def isRightB (b : Bk) (r : List (List Int)) : Bool := isSumB b r && (List.range r.length).all fun i => fitsL (cordAt b i) (r[i]?.getD default)
def rightR (b : Bk) (r : List (List Int)) : Bool × Int := if checkB b then (isRightB b r, 0) else (false, 110)
end Go.Proofs.YtpangdaijhiohaaGreatDoor.Kn

set_option linter.unusedSimpArgs false
set_option linter.unusedVariables false
set_option linter.unnecessarySimpa false
namespace Go.Proofs.YtpangdaijhiohaaGreatDoor.Kn
open Go Go.V
theorem numL_bd {base : Int} (hb : 2 ≤ base ∧ base ≤ 10) : ∀ (l : List Int) (k : Nat) (n : Int), (∀ d ∈ l, 0 ≤ d ∧ d < base) → 0 ≤ n → n < ((10 ^ k : Nat) : Int) → k + l.length ≤ 4 →
  0 ≤ l.foldl (fun n d => w64 (w64 (n * base) + d)) n ∧ l.foldl (fun n d => w64 (w64 (n * base) + d)) n < ((10 ^ (k + l.length) : Nat) : Int)
 | [], k, n, _, h1, h2, _ => ⟨h1, h2⟩
 | d :: r, k, n, hd, h1, h2, hk => by
  simp only [List.length_cons] at hk
  have h10 : 10 ^ k ≤ 1000 := by
   have : k = 0 ∨ k = 1 ∨ k = 2 ∨ k = 3 := by omega
   rcases this with rfl | rfl | rfl | rfl <;> decide
  obtain ⟨d1, d2⟩ := hd d (by simp)
  have m1 : 0 ≤ n * base := Int.mul_nonneg h1 (by omega)
  have m2 : n * base ≤ n * 10 := Int.mul_le_mul_of_nonneg_left hb.2 h1
  have e1 : w64 (n * base) = n * base := w64_id (by omega)
  have e2 : w64 (n * base + d) = n * base + d := w64_id (by omega)
  have h3 : n * base + d < ((10 ^ (k + 1) : Nat) : Int) := by
   rw [Nat.pow_succ]
   omega
  have := numL_bd hb r (k + 1) (n * base + d) (fun x hx => hd x (by simp [hx])) (by omega) h3 (by omega)
  simp only [List.foldl_cons, e1, e2, List.length_cons]
  rw [show k + (r.length + 1) = k + 1 + r.length by omega]
  exact this
theorem numL_dig {b : Bk} (hv : Val b) {l : List Int} (h : areDig b l = true) : 0 ≤ numL b.base l ∧ numL b.base l < 10000 := by
 have hp := hv.hp
 have hbb := hv.hb
 simp only [areDig, Bool.and_eq_true, decide_eq_true_eq, Bool.not_eq_true', List.any_eq_false] at h
 obtain ⟨h1, h2⟩ := h
 have := numL_bd hv.hb l 0 0 (fun d hd => by
  have := h2 d hd
  rw [w64_id (by omega)] at this
  simp only [within, Bool.not_eq_true', Bool.and_eq_false_iff, decide_eq_false_iff_not, Bool.not_eq_false, Bool.and_eq_true, decide_eq_true_eq] at this
  omega) (by omega) (by simp) (by omega)
 refine ⟨this.1, Int.lt_of_lt_of_le this.2 ?_⟩
 have h4 : (10 : Nat) ^ (0 + l.length) ≤ 10 ^ 4 := Nat.pow_le_pow_right (by omega) (by omega)
 have : (10 : Nat) ^ 4 = 10000 := by decide
 omega
theorem sumW_bd {b : Bk} (hv : Val b) : ∀ (r : List (List Int)) (n : Int), (∀ l ∈ r, areDig b l = true) → 0 ≤ n → n + 10000 * r.length ≤ 9000000000 →
  0 ≤ r.foldl (fun n x => w64 (n + numL b.base x)) n ∧ r.foldl (fun n x => w64 (n + numL b.base x)) n ≤ n + 10000 * r.length
 | [], n, _, h, _ => by simp [h]
 | x :: r, n, hd, h, hn => by
  simp only [List.length_cons] at hn
  obtain ⟨d1, d2⟩ := numL_dig hv (hd x (by simp))
  have e : w64 (n + numL b.base x) = n + numL b.base x := w64_id (by omega)
  have := sumW_bd hv r (n + numL b.base x) (fun l hl => hd l (by simp [hl])) (by omega) (by omega)
  simp only [List.foldl_cons, e, List.length_cons]
  omega
def okAt (b : Bk) (i : Nat) (l : List Int) : Bool := decide ((l.length : Int) = b.places) && (List.range l.length).all fun p => within (l[p]?.getD default) ((cordAt b i)[p]?.getD default).lo ((cordAt b i)[p]?.getD default).hi
theorem okAt_eq {b : Bk} (hv : Val b) {i : Nat} (hi : i ≤ b.cords.length) (l : List Int) : okAt b i l = (areDig b l && fitsL (cordAt b i) l) := by
 obtain ⟨h1, h2⟩ := cordAt_val hv hi
 have hbb := hv.hb
 unfold okAt areDig fitsL
 by_cases hl : (l.length : Int) = b.places
 ·have hcl : (cordAt b i).length = l.length := by omega
  rw [hcl]
  have e : (List.range l.length).all (fun p => within (l[p]?.getD default) ((cordAt b i)[p]?.getD default).lo ((cordAt b i)[p]?.getD default).hi) = true → (l.any fun d => !within d 0 (w64 (b.base - 1))) = false := by
   intro h
   rw [List.all_eq_true] at h
   rw [List.any_eq_false]
   intro d hd
   obtain ⟨p, hp, rfl⟩ := List.mem_iff_getElem.1 hd
   have := h p (by simpa using hp)
   rw [List.getElem?_eq_getElem hp] at this
   obtain ⟨s1, s2, s3⟩ := h2 _ (mem_getD (show p < (cordAt b i).length by omega))
   rw [w64_id (by omega)]
   simp only [within, Option.getD_some, Bool.and_eq_true, decide_eq_true_eq, Bool.not_eq_true', Bool.not_eq_false] at this ⊢
   omega
  simp only [hl, decide_true, Bool.true_and]
  cases hx : (List.range l.length).all (fun p => within (l[p]?.getD default) ((cordAt b i)[p]?.getD default).lo ((cordAt b i)[p]?.getD default).hi) with
  | true => simp [e hx]
  | false => simp
 ·simp [hl]
theorem right_eq {b : Bk} (hv : Val b) (hs : b.cords.length ≤ 1000) (r : List (List Int)) (hlen : r.length = b.cords.length + 1) (h : ∀ i, i < r.length → okAt b i (r[i]?.getD default) = true) :
  isRightB b r = decide (w64 (sumW b.base (r.take b.cords.length) - numL b.base (r[b.cords.length]?.getD default)) = 0) := by
 have hd : ∀ l ∈ r, areDig b l = true := by
  intro l hl
  obtain ⟨i, hi, rfl⟩ := List.mem_iff_getElem.1 hl
  have := h i hi
  rw [okAt_eq hv (by omega), Bool.and_eq_true, List.getElem?_eq_getElem hi] at this
  exact this.1
 have hf : ((List.range r.length).all fun i => fitsL (cordAt b i) (r[i]?.getD default)) = true := by
  rw [List.all_eq_true]
  intro i hi
  have hi' : i < r.length := by simpa using hi
  have := h i hi'
  rw [okAt_eq hv (by omega), Bool.and_eq_true] at this
  exact this.2
 have ha : r.all (areDig b) = true := List.all_eq_true.2 hd
 obtain ⟨t1, t2⟩ := numL_dig hv (hd _ (mem_getD (show b.cords.length < r.length by omega)))
 obtain ⟨u1, u2⟩ := sumW_bd hv (r.take b.cords.length) 0 (fun l hl => hd l (List.mem_of_mem_take hl)) (by omega) (by simp; omega)
 have u3 : 0 ≤ sumW b.base (r.take b.cords.length) := u1
 have u4 : sumW b.base (r.take b.cords.length) ≤ 10000000 := by
  have : sumW b.base (r.take b.cords.length) ≤ 0 + 10000 * ((r.take b.cords.length).length : Int) := u2
  simp only [List.length_take] at this
  omega
 rw [w64_id (by omega)]
 simp only [isRightB, isSumB, hlen, decide_true, Bool.true_and, ha]
 rw [hlen] at hf
 rw [hf, Bool.and_true, decide_eq_decide]
 omega
theorem right_no {b : Bk} (hv : Val b) (r : List (List Int)) (i : Nat) (hi : i < r.length) (h : okAt b i (r[i]?.getD default) = false) : isRightB b r = false := by
 cases hx : isRightB b r with
 | false => rfl
 | true =>
  simp only [isRightB, isSumB, Bool.and_eq_true, decide_eq_true_eq, List.all_eq_true] at hx
  obtain ⟨⟨h1, h2, _⟩, h3⟩ := hx
  rw [okAt_eq hv (by omega), h2 _ (mem_getD hi), h3 i (by simpa using hi)] at h
  simp at h
end Go.Proofs.YtpangdaijhiohaaGreatDoor.Kn

set_option linter.unusedSimpArgs false
set_option linter.unusedVariables false
set_option linter.unnecessarySimpa false
namespace Go.Proofs.YtpangdaijhiohaaGreatDoor.Kn
open Go Go.V
def accP (b : Bk) (r : List (List Int)) (i : Nat) : Int := if i ≤ b.cords.length then sumW b.base (r.take i) else w64 (sumW b.base (r.take b.cords.length) - numL b.base (r[b.cords.length]?.getD default))
theorem allC_len (b : Bk) : (allC b).length = b.cords.length + 1 := by simp [allC]
theorem c35 (b : Bk) (hs : Small b) (hcs : b.cords.length ≤ 1000) (r : List (List Int)) (hr : r.length < 9223372036854775808) (hd : ∀ l ∈ r, l.length < 4294967296) : Ctr Tryz.prog 35 [KB b, RS r] (.tup [.bool (rightR b r).1, .int (rightR b r).2]) := by
 refine ctr_of_wp hmix Tryz.func35 m35 rfl ?_
 unfold v35 rightR
 simp -failIfUnchanged (disch := first|omega|(simp [wcs_len]<;>omega)|fail) only [go_sem,simprocAttr]
 refine wcall (c71 b hs) ?_
 cases hc : checkB b with
 | false => simp -failIfUnchanged (disch := first|omega|(simp [wcs_len]<;>omega)|fail) only [go_sem,simprocAttr]
 | true =>
  have hv := val_of_check hc
  have hcl := hs.cords
  have hal := allC_len b
  simp -failIfUnchanged (disch := first|omega|(simp [wcs_len]<;>omega)|fail) only [go_sem,simprocAttr]
  refine wcall (c51 b hs) ?_
  generalize hA : allC b = A at hal
  simp -failIfUnchanged (disch := first|omega|(simp [wcs_len]<;>omega)|fail) only [go_sem,simprocAttr]
  refine wcond_dec (fun h => ?_) (fun h => ?_)
  ·simp -failIfUnchanged (disch := first|omega|(simp [wcs_len]<;>omega)|fail) only [go_sem,simprocAttr]
   have : isRightB b r = false := by
    have : ¬ r.length = b.cords.length + 1 := by omega
    simp [isRightB, isSumB, this]
   simp [this]
  ·have hlen : r.length = b.cords.length + 1 := by omega
   have hpl := hv.hp
   simp -failIfUnchanged (disch := first|omega|(simp [wcs_len]<;>omega)|fail) only [go_sem,simprocAttr]
   refine wp_loop' Nat (fun i => ⟨[(2, .ptr 2 0), (7, .sl 1 (A.map SS) .sh), (8, .int (accP b r i)), (26, RS r), (27, .int r.length), (28, .int i)], [(2, ⟨[.int b.base, .int b.places, .sl 1 (b.cords.map SS) .sh, SS b.top], false⟩)], [], none⟩) (fun i => i ≤ r.length ∧ ∀ j, j < i → okAt b j (r[j]?.getD default) = true) (fun i => r.length - i) 0 (by simp) (by simp -failIfUnchanged (disch := first|omega|(simp [wcs_len]<;>omega)|fail) only [go_sem,simprocAttr]; try simp [accP, sumW]) ?_
   rintro i ⟨hi, hpre⟩
   simp -failIfUnchanged (disch := first|omega|(simp [wcs_len]<;>omega)|fail) only [go_sem,simprocAttr]
   refine wcond_dec (fun h5 => ?_) (fun h5 => ?_)
   ·have hlt : i < r.length := by omega
    have hml := hd _ (mem_getD hlt)
    have hAi : A[i]?.getD default = cordAt b i := by rw [← hA, allC_at i (by omega)]
    have hcv := (cordAt_val hv (n := i) (by omega)).1
    have hno : ∀ p, p < (r[i]?.getD default).length → ((r[i]?.getD default).length : Int) = b.places → within ((r[i]?.getD default)[p]?.getD default) ((cordAt b i)[p]?.getD default).lo ((cordAt b i)[p]?.getD default).hi = false → isRightB b r = false := by
     intro p hp _ hw
     refine right_no hv r i hlt ?_
     unfold okAt
     rw [Bool.and_eq_false_iff]
     right
     exact List.all_eq_false.2 ⟨p, by simpa using hp, by simpa using hw⟩
    have hno2 : ¬ ((r[i]?.getD default).length : Int) = b.places → isRightB b r = false := by
     intro hp
     refine right_no hv r i hlt ?_
     unfold okAt
     simp [hp]
    have hyes : ((r[i]?.getD default).length : Int) = b.places → (∀ p, p < (r[i]?.getD default).length → within ((r[i]?.getD default)[p]?.getD default) ((cordAt b i)[p]?.getD default).lo ((cordAt b i)[p]?.getD default).hi = true) → okAt b i (r[i]?.getD default) = true := by
     intro hp hw
     unfold okAt
     rw [Bool.and_eq_true, decide_eq_true_eq, List.all_eq_true]
     exact ⟨hp, fun p hp => hw p (by simpa using hp)⟩
    have hnext : okAt b i (r[i]?.getD default) = true → ∀ j, j < i + 1 → okAt b j (r[j]?.getD default) = true := by
     intro ho j hj
     rcases Nat.lt_or_ge j i with hj2 | hj2
     ·exact hpre j hj2
     ·have : j = i := by omega
      subst this
      exact ho
    have hacc1 : i < b.cords.length → accP b r (i + 1) = w64 (accP b r i + numL b.base (r[i]?.getD default)) := by
     intro hib
     unfold accP
     rw [if_pos (by omega), if_pos (by omega), List.take_add_one, List.getElem?_eq_getElem hlt]
     exact sumW_snoc _ _ _
    have hacc2 : ¬ i < b.cords.length → accP b r (i + 1) = w64 (accP b r i - numL b.base (r[i]?.getD default)) := by
     intro hib
     have : i = b.cords.length := by omega
     subst this
     unfold accP
     rw [if_neg (by omega), if_pos (by omega)]
    generalize hl : r[i]?.getD default = l at *
    generalize hcd : cordAt b i = cd at *
    simp -failIfUnchanged (disch := first|omega|(simp [wcs_len]<;>omega)|fail) only [go_sem,simprocAttr, hl]
    refine wcond_dec (fun h6 => ?_) (fun h6 => ?_)
    ·simp -failIfUnchanged (disch := first|omega|(simp [wcs_len]<;>omega)|fail) only [go_sem,simprocAttr]
     simp [hno2 (by simpa using h6)]
    ·have hll : (l.length : Int) = b.places := by simpa using h6
     simp -failIfUnchanged (disch := first|omega|(simp [wcs_len]<;>omega)|fail) only [go_sem,simprocAttr]
     refine wp_loop' Nat (fun p => ⟨[(2, .ptr 2 0), (7, .sl 1 (A.map SS) .sh), (8, .int (accP b r i)), (9, .int i), (10, IS l), (26, RS r), (27, .int r.length), (28, .int i), (38, IS l), (39, .int l.length), (40, .int p)], [(2, ⟨[.int b.base, .int b.places, .sl 1 (b.cords.map SS) .sh, SS b.top], false⟩)], [], none⟩) (fun p => p ≤ l.length ∧ ∀ j, j < p → within (l[j]?.getD default) (cd[j]?.getD default).lo (cd[j]?.getD default).hi = true) (fun p => l.length - p) 0 (by simp) (by simp -failIfUnchanged (disch := first|omega|(simp [wcs_len]<;>omega)|fail) only [go_sem,simprocAttr]; try simp) ?_
     rintro p ⟨hp, hpre2⟩
     simp -failIfUnchanged (disch := first|omega|(simp [wcs_len]<;>omega)|fail) only [go_sem,simprocAttr]
     refine wcond_dec (fun h7 => ?_) (fun h7 => ?_)
     ·have hplt : p < l.length := by omega
      simp -failIfUnchanged (disch := first|omega|(simp [wcs_len]<;>omega)|fail) only [go_sem,simprocAttr, hAi]
      refine wcall (c83 _ _ _) ?_
      simp -failIfUnchanged (disch := first|omega|(simp [wcs_len]<;>omega)|fail) only [go_sem,simprocAttr]
      refine wcond_bool (fun h8 => ?_) (fun h8 => ?_)
      ·simp -failIfUnchanged (disch := first|omega|(simp [wcs_len]<;>omega)|fail) only [go_sem,simprocAttr]
       simp [hno p hplt hll (by simpa using h8)]
      ·simp -failIfUnchanged (disch := first|omega|(simp [wcs_len]<;>omega)|fail) only [go_sem,simprocAttr]
       refine ⟨p + 1, ⟨by omega, fun j hj => ?_⟩, by dsimp only; omega, ?_⟩
       ·rcases Nat.lt_or_ge j p with hj2 | hj2
        ·exact hpre2 j hj2
        ·have : j = p := by omega
         subst this
         simpa using h8
       ·simp -failIfUnchanged (disch := first|omega|(simp [wcs_len]<;>omega)|fail) only [go_sem,simprocAttr]
        simp
     ·have e : p = l.length := by omega
      subst e
      simp -failIfUnchanged (disch := first|omega|(simp [wcs_len]<;>omega)|fail) only [go_sem,simprocAttr]
      refine wcall (c63 b.base l (by omega)) ?_
      simp -failIfUnchanged (disch := first|omega|(simp [wcs_len]<;>omega)|fail) only [go_sem,simprocAttr]
      refine wcond_dec (fun h8 => ?_) (fun h8 => ?_)
      ·simp -failIfUnchanged (disch := first|omega|(simp [wcs_len]<;>omega)|fail) only [go_sem,simprocAttr]
       refine ⟨i + 1, ⟨by omega, hnext (hyes hll hpre2)⟩, by dsimp only; omega, ?_⟩
       dsimp only
       rw [hacc1 (by omega)]
       simp -failIfUnchanged (disch := first|omega|(simp [wcs_len]<;>omega)|fail) only [go_sem,simprocAttr]
       try simp
      ·simp -failIfUnchanged (disch := first|omega|(simp [wcs_len]<;>omega)|fail) only [go_sem,simprocAttr]
       refine ⟨i + 1, ⟨by omega, hnext (hyes hll hpre2)⟩, by dsimp only; omega, ?_⟩
       dsimp only
       rw [hacc2 (by omega)]
       simp -failIfUnchanged (disch := first|omega|(simp [wcs_len]<;>omega)|fail) only [go_sem,simprocAttr]
       try simp
   ·have e : i = r.length := by omega
    subst e
    simp -failIfUnchanged (disch := first|omega|(simp [wcs_len]<;>omega)|fail) only [go_sem,simprocAttr]
    rw [right_eq hv hcs r hlen (fun i hi => hpre i hi)]
    have : accP b r r.length = w64 (sumW b.base (r.take b.cords.length) - numL b.base (r[b.cords.length]?.getD default)) := by
     unfold accP
     rw [if_neg (by omega)]
    rw [this]
    try simp
end Go.Proofs.YtpangdaijhiohaaGreatDoor.Kn

set_option linter.unusedSimpArgs false
set_option linter.unusedVariables false
set_option linter.unnecessarySimpa false
namespace Go.Proofs.YtpangdaijhiohaaGreatDoor.Kn
open Go Go.V
end Go.Proofs.YtpangdaijhiohaaGreatDoor.Kn

set_option linter.unusedSimpArgs false
set_option linter.unusedVariables false
set_option linter.unnecessarySimpa false
namespace Go.Proofs.YtpangdaijhiohaaGreatDoor.Kn
open Go Go.V
end Go.Proofs.YtpangdaijhiohaaGreatDoor.Kn

set_option linter.unusedSimpArgs false
set_option linter.unusedVariables false
set_option linter.unnecessarySimpa false
namespace Go.Proofs.YtpangdaijhiohaaGreatDoor.Kn
open Go Go.V
end Go.Proofs.YtpangdaijhiohaaGreatDoor.Kn

set_option linter.unusedSimpArgs false
set_option linter.unusedVariables false
set_option linter.unnecessarySimpa false
namespace Go.Proofs.YtpangdaijhiohaaGreatDoor.Kn
open Go Go.V
end Go.Proofs.YtpangdaijhiohaaGreatDoor.Kn

set_option linter.unusedSimpArgs false
set_option linter.unusedVariables false
set_option linter.unnecessarySimpa false
namespace Go.Proofs.YtpangdaijhiohaaGreatDoor.Kn
open Go Go.V
end Go.Proofs.YtpangdaijhiohaaGreatDoor.Kn

set_option linter.unusedSimpArgs false
set_option linter.unusedVariables false
set_option linter.unnecessarySimpa false
namespace Go.Proofs.YtpangdaijhiohaaGreatDoor.Kn
open Go Go.V
def spF (base : Int) (Q : Nat → Prop) [DecidablePred Q] (m : Nat) : Sp := (List.range m).foldl (fun s d => if Q d then ⟨min s.lo d, max s.hi d⟩ else s) ⟨base, 0⟩
theorem spF_spec (base : Int) (Q : Nat → Prop) [DecidablePred Q] : ∀ m : Nat, (m : Int) ≤ base →
  ((∀ d, d < m → ¬ Q d) ∧ spF base Q m = ⟨base, 0⟩) ∨ ∃ lo hi : Nat, lo < m ∧ hi < m ∧ Q lo ∧ Q hi ∧ spF base Q m = ⟨lo, hi⟩ ∧ ∀ d, d < m → Q d → lo ≤ d ∧ d ≤ hi
 | 0, _ => .inl ⟨fun d hd => by omega, by simp [spF]⟩
 | m + 1, hm => by
  have e : spF base Q (m + 1) = if Q m then ⟨min (spF base Q m).lo m, max (spF base Q m).hi m⟩ else spF base Q m := by
   unfold spF
   rw [List.range_succ, List.foldl_append]
   rfl
  rw [e]
  rcases spF_spec base Q m (by omega) with ⟨h1, h2⟩ | ⟨lo, hi, h1, h2, h3, h4, h5, h6⟩
  ·by_cases hq : Q m
   ·refine .inr ⟨m, m, by omega, by omega, hq, hq, ?_, ?_⟩
    ·rw [if_pos hq, h2, Sp.mk.injEq]
     dsimp only
     omega
    ·intro d hd hqd
     rcases Nat.lt_or_ge d m with h | h
     ·exact absurd hqd (h1 d h)
     ·omega
   ·refine .inl ⟨fun d hd hqd => ?_, by rw [if_neg hq, h2]⟩
    rcases Nat.lt_or_ge d m with h | h
    ·exact h1 d h hqd
    ·have : d = m := by omega
     subst this; exact hq hqd
  ·by_cases hq : Q m
   ·refine .inr ⟨lo, m, by omega, by omega, h3, hq, ?_, ?_⟩
    ·rw [if_pos hq, h5, Sp.mk.injEq]
     dsimp only
     omega
    ·intro d hd hqd
     rcases Nat.lt_or_ge d m with h | h
     ·have := h6 d h hqd; omega
     ·omega
   ·refine .inr ⟨lo, hi, by omega, by omega, h3, h4, by rw [if_neg hq, h5], fun d hd hqd => ?_⟩
    rcases Nat.lt_or_ge d m with h | h
    ·exact h6 d h hqd
    ·have : d = m := by omega
     subst this; exact absurd hqd hq
theorem manyR_pos {b : Bk} {L : List (List Nat)} {may : Nat → Nat → Nat → Bool} {carry : Nat → Nat → Bool} {c p d : Nat} (hc : c ≤ b.cords.length) (hp : p < b.places.toNat) :
  0 < manyR b L may carry c p d ↔ ∃ l ∈ L, allOK b may carry l = true ∧ dgN b l c p = d := by
 unfold manyR
 have : 0 < ((sumF L fun l => if allOK b (onlyF may c p d) carry l then 1 else 0 : Nat) : Int) ↔ 0 < sumF L fun l => if allOK b (onlyF may c p d) carry l then 1 else 0 := by omega
 rw [this, sumF_pos]
 constructor
 ·rintro ⟨l, hl, h⟩
  refine ⟨l, hl, ?_⟩
  split at h
  ·next h2 => rwa [allOK_only hc hp, Bool.and_eq_true, decide_eq_true_eq] at h2
  ·omega
 ·rintro ⟨l, hl, h1, h2⟩
  refine ⟨l, hl, ?_⟩
  rw [allOK_only hc hp, h1, h2]
  simp
theorem spanR_spec {b : Bk} (hv : Val b) {L : List (List Nat)} {may : Nat → Nat → Nat → Bool} {carry : Nat → Nat → Bool} {c p : Nat} (hc : c ≤ b.cords.length) (hp : p < b.places.toNat)
  (hne : ∃ l ∈ L, allOK b may carry l = true) :
  ∃ lo hi : Nat, lo < b.base.toNat ∧ hi < b.base.toNat ∧ spanR b L may carry c p b.base.toNat = ⟨lo, hi⟩ ∧ (∃ l ∈ L, allOK b may carry l = true ∧ dgN b l c p = lo) ∧ (∃ l ∈ L, allOK b may carry l = true ∧ dgN b l c p = hi) ∧
   ∀ l ∈ L, allOK b may carry l = true → lo ≤ dgN b l c p ∧ dgN b l c p ≤ hi := by
 have hB : 0 < b.base.toNat := by have := hv.hb; omega
 have e : spanR b L may carry c p b.base.toNat = spF b.base (fun d => 0 < manyR b L may carry c p d) b.base.toNat := rfl
 rcases spF_spec b.base (fun d => 0 < manyR b L may carry c p d) b.base.toNat (by omega) with ⟨h1, _⟩ | ⟨lo, hi, h1, h2, h3, h4, h5, h6⟩
 ·obtain ⟨l, hl, h⟩ := hne
  exact absurd ((manyR_pos hc hp).2 ⟨l, hl, h, rfl⟩) (h1 _ (Nat.mod_lt _ hB))
 ·refine ⟨lo, hi, h1, h2, by rw [e, h5], (manyR_pos hc hp).1 h3, (manyR_pos hc hp).1 h4, fun l hl h => ?_⟩
  exact h6 _ (Nat.mod_lt _ hB) ((manyR_pos hc hp).2 ⟨l, hl, h, rfl⟩)
theorem spanL_spec (l : List Int) (h : 0 < l.length) : ∀ m, 0 < m → m ≤ l.length → (∃ x ∈ l.take m, (spanL l m).lo = x) ∧ (∃ x ∈ l.take m, (spanL l m).hi = x) ∧ ∀ x ∈ l.take m, (spanL l m).lo ≤ x ∧ x ≤ (spanL l m).hi
 | 0, h0, _ => by omega
 | m + 1, _, hm => by
  have e : spanL l (m + 1) = ⟨min (spanL l m).lo (l[m]?.getD default), max (spanL l m).hi (l[m]?.getD default)⟩ := by
   unfold spanL
   rw [take_snoc (by omega), List.foldl_append]
   rfl
  rw [e, take_snoc (show m < l.length by omega)]
  generalize hx : l[m]?.getD default = x
  rcases Nat.eq_zero_or_pos m with h0 | h0
  ·subst h0
   have e0 : spanL l 0 = ⟨x, x⟩ := by
    unfold spanL
    rw [List.take_zero, List.foldl_nil, hx]
   rw [e0]
   refine ⟨⟨x, by simp, by dsimp only; omega⟩, ⟨x, by simp, by dsimp only; omega⟩, fun y hy => ?_⟩
   simp only [List.take_zero, List.nil_append, List.mem_singleton] at hy
   subst hy
   dsimp only
   omega
  ·obtain ⟨⟨u, hu, h1⟩, ⟨v, hv, h2⟩, h3⟩ := spanL_spec l h m h0 (by omega)
   dsimp only
   refine ⟨?_, ?_, fun y hy => ?_⟩
   ·rcases Int.lt_or_le x (spanL l m).lo with h | h
    ·exact ⟨x, by simp, by omega⟩
    ·exact ⟨u, by simp [hu], by omega⟩
   ·rcases Int.lt_or_le (spanL l m).hi x with h | h
    ·exact ⟨x, by simp, by omega⟩
    ·exact ⟨v, by simp [hv], by omega⟩
   ·rcases List.mem_append.1 hy with hy | hy
    ·have := h3 y hy
     omega
    ·simp only [List.mem_singleton] at hy
     subst hy
     omega
theorem spanL_uniq {l : List Int} {lo hi : Int} (h1 : lo ∈ l) (h2 : hi ∈ l) (h3 : ∀ x ∈ l, lo ≤ x ∧ x ≤ hi) : spanL l l.length = ⟨lo, hi⟩ := by
 have h0 : 0 < l.length := List.length_pos_of_mem h1
 obtain ⟨⟨u, hu, e1⟩, ⟨v, hv, e2⟩, e3⟩ := spanL_spec l h0 l.length h0 (Nat.le_refl _)
 rw [List.take_length] at hu hv e3
 have a1 := h3 u hu
 have a2 := h3 v hv
 have a3 := e3 lo h1
 have a4 := e3 hi h2
 generalize spanL l l.length = s at *
 obtain ⟨x, y⟩ := s
 rw [Sp.mk.injEq]
 dsimp only at *
 omega
end Go.Proofs.YtpangdaijhiohaaGreatDoor.Kn

set_option linter.unusedSimpArgs false
set_option linter.unusedVariables false
set_option linter.unnecessarySimpa false
namespace Go.Proofs.YtpangdaijhiohaaGreatDoor.Kn
open Go Go.V
theorem numL_two {base : Int} {n e : Nat} (hb : 2 ≤ base ∧ base ≤ 10) (hn : n ≤ 100000) (he : e ≤ 100) : numL base [(n : Int), (e : Int)] = ((n * base.toNat + e : Nat) : Int) := by
 have hB : ((base.toNat : Nat) : Int) = base := by omega
 have h0 : w64 0 = 0 := by decide
 have h1 : n * base.toNat ≤ 100000 * 10 := Nat.mul_le_mul hn (by omega)
 have e1 : (n : Int) * base = ((n * base.toNat : Nat) : Int) := by rw [Int.natCast_mul, hB]
 unfold numL
 simp only [List.foldl_cons, List.foldl_nil, Int.zero_mul, h0, Int.zero_add]
 rw [w64_id (n := (n : Int)) (by omega), e1, w64_id (n := ((n * base.toNat : Nat) : Int)) (by omega), w64_id (by omega)]
 omega
theorem div_step {x N B : Nat} (hN : 0 < N) : x / N = x / (N * B) * B + x / N % B := by
 rw [← Nat.div_div_eq_div_mul, Nat.mul_comm]
 exact (Nat.div_add_mod (x / N) B).symm
theorem endR_lo {b : Bk} (hv : Val b) {L : List (List Nat)} {carry : Nat → Nat → Bool} {cord : Nat} (hc : cord ≤ b.cords.length) (hsm : ∀ l ∈ L, l[cord]?.getD default < allN b) :
  ∀ (k p : Nat) (may : Nat → Nat → Nat → Bool) (n : Nat), p + k = b.places.toNat → (∃ l ∈ L, allOK b may carry l = true) → (∀ l ∈ L, allOK b may carry l = true → l[cord]?.getD default / b.base.toNat ^ k = n) →
   ∃ r : Nat, endR b L carry cord (fun s => s.lo) p k may n = r ∧ (∃ l ∈ L, allOK b may carry l = true ∧ l[cord]?.getD default = r) ∧ ∀ l ∈ L, allOK b may carry l = true → r ≤ l[cord]?.getD default
 | 0, p, may, n, hpk, ⟨l, hl, h⟩, hn => by
  have h1 := hn l hl h
  rw [Nat.pow_zero, Nat.div_one] at h1
  refine ⟨n, rfl, ⟨l, hl, h, h1⟩, fun k hk h2 => ?_⟩
  have := hn k hk h2
  rw [Nat.pow_zero, Nat.div_one] at this
  omega
 | k + 1, p, may, n, hpk, hne, hn => by
  have hB : 0 < b.base.toNat := by have := hv.hb; omega
  have hall := allN_le hv
  obtain ⟨lo, hi, s1, s2, s3, ⟨l0, hl0, hl1, hl2⟩, _, s5⟩ := spanR_spec hv (L := L) (may := may) (carry := carry) hc (show p < b.places.toNat by omega) hne
  have hN : 0 < b.base.toNat ^ k := Nat.pow_pos hB
  have hdg : ∀ l : List Nat, dgN b l cord p = l[cord]?.getD default / b.base.toNat ^ k % b.base.toNat := by
   intro l
   unfold dgN
   rw [show b.places.toNat - 1 - p = k by omega]
  have hdv : ∀ l ∈ L, allOK b may carry l = true → l[cord]?.getD default / b.base.toNat ^ k = n * b.base.toNat + dgN b l cord p := by
   intro l hl h
   rw [hdg, ← hn l hl h, Nat.pow_succ]
   exact div_step hN
  have hnle : n ≤ 10000 := by
   have := hn l0 hl0 hl1
   have h2 := hsm l0 hl0
   have := Nat.div_le_self (l0[cord]?.getD default) (b.base.toNat ^ (k + 1))
   omega
  have hnum := numL_two hv.hb (n := n) (e := lo) (by omega) (by have := hv.hb; omega)
  rw [endR, s3]
  dsimp only
  rw [Int.toNat_natCast, hnum]
  obtain ⟨r, h1, ⟨l, hl, h2, h3⟩, h4⟩ := endR_lo hv (carry := carry) hc hsm k (p + 1) (onlyF may cord p lo) (n * b.base.toNat + lo) (by omega)
   ⟨l0, hl0, by rw [allOK_only hc (by omega), hl1, hl2]; simp⟩ (fun l hl h => by
    rw [allOK_only hc (by omega), Bool.and_eq_true, decide_eq_true_eq] at h
    rw [hdv l hl h.1, h.2])
  refine ⟨r, h1, ⟨l, hl, ?_, h3⟩, fun x hx hx2 => ?_⟩
  ·rw [allOK_only hc (by omega), Bool.and_eq_true] at h2
   exact h2.1
  ·rcases Nat.lt_or_ge lo (dgN b x cord p) with h | h
   ·rw [allOK_only hc (by omega), Bool.and_eq_true, decide_eq_true_eq] at h2
    have d1 := hdv l hl h2.1
    have d2 := hdv x hx hx2
    rw [h2.2] at d1
    have : l[cord]?.getD default / b.base.toNat ^ k < x[cord]?.getD default / b.base.toNat ^ k := by omega
    have := Nat.lt_of_div_lt_div this
    omega
   ·have h5 := (s5 x hx hx2).1
    refine h4 x hx ?_
    rw [allOK_only hc (by omega), hx2, Bool.true_and, decide_eq_true_eq]
    omega
theorem endR_hi {b : Bk} (hv : Val b) {L : List (List Nat)} {carry : Nat → Nat → Bool} {cord : Nat} (hc : cord ≤ b.cords.length) (hsm : ∀ l ∈ L, l[cord]?.getD default < allN b) :
  ∀ (k p : Nat) (may : Nat → Nat → Nat → Bool) (n : Nat), p + k = b.places.toNat → (∃ l ∈ L, allOK b may carry l = true) → (∀ l ∈ L, allOK b may carry l = true → l[cord]?.getD default / b.base.toNat ^ k = n) →
   ∃ r : Nat, endR b L carry cord (fun s => s.hi) p k may n = r ∧ (∃ l ∈ L, allOK b may carry l = true ∧ l[cord]?.getD default = r) ∧ ∀ l ∈ L, allOK b may carry l = true → l[cord]?.getD default ≤ r
 | 0, p, may, n, hpk, ⟨l, hl, h⟩, hn => by
  have h1 := hn l hl h
  rw [Nat.pow_zero, Nat.div_one] at h1
  refine ⟨n, rfl, ⟨l, hl, h, h1⟩, fun k hk h2 => ?_⟩
  have := hn k hk h2
  rw [Nat.pow_zero, Nat.div_one] at this
  omega
 | k + 1, p, may, n, hpk, hne, hn => by
  have hB : 0 < b.base.toNat := by have := hv.hb; omega
  have hall := allN_le hv
  obtain ⟨lo, hi, s1, s2, s3, _, ⟨l0, hl0, hl1, hl2⟩, s5⟩ := spanR_spec hv (L := L) (may := may) (carry := carry) hc (show p < b.places.toNat by omega) hne
  have hN : 0 < b.base.toNat ^ k := Nat.pow_pos hB
  have hdg : ∀ l : List Nat, dgN b l cord p = l[cord]?.getD default / b.base.toNat ^ k % b.base.toNat := by
   intro l
   unfold dgN
   rw [show b.places.toNat - 1 - p = k by omega]
  have hdv : ∀ l ∈ L, allOK b may carry l = true → l[cord]?.getD default / b.base.toNat ^ k = n * b.base.toNat + dgN b l cord p := by
   intro l hl h
   rw [hdg, ← hn l hl h, Nat.pow_succ]
   exact div_step hN
  have hnle : n ≤ 10000 := by
   have := hn l0 hl0 hl1
   have h2 := hsm l0 hl0
   have := Nat.div_le_self (l0[cord]?.getD default) (b.base.toNat ^ (k + 1))
   omega
  have hnum := numL_two hv.hb (n := n) (e := hi) (by omega) (by have := hv.hb; omega)
  rw [endR, s3]
  dsimp only
  rw [Int.toNat_natCast, hnum]
  obtain ⟨r, h1, ⟨l, hl, h2, h3⟩, h4⟩ := endR_hi hv (carry := carry) hc hsm k (p + 1) (onlyF may cord p hi) (n * b.base.toNat + hi) (by omega)
   ⟨l0, hl0, by rw [allOK_only hc (by omega), hl1, hl2]; simp⟩ (fun l hl h => by
    rw [allOK_only hc (by omega), Bool.and_eq_true, decide_eq_true_eq] at h
    rw [hdv l hl h.1, h.2])
  refine ⟨r, h1, ⟨l, hl, ?_, h3⟩, fun x hx hx2 => ?_⟩
  ·rw [allOK_only hc (by omega), Bool.and_eq_true] at h2
   exact h2.1
  ·rcases Nat.lt_or_ge (dgN b x cord p) hi with h | h
   ·rw [allOK_only hc (by omega), Bool.and_eq_true, decide_eq_true_eq] at h2
    have d1 := hdv l hl h2.1
    have d2 := hdv x hx hx2
    rw [h2.2] at d1
    have : x[cord]?.getD default / b.base.toNat ^ k < l[cord]?.getD default / b.base.toNat ^ k := by omega
    have := Nat.lt_of_div_lt_div this
    omega
   ·have h5 := (s5 x hx hx2).2
    refine h4 x hx ?_
    rw [allOK_only hc (by omega), hx2, Bool.true_and, decide_eq_true_eq]
    omega
theorem sure_eq {b : Bk} (hv : Val b) {c : Nat} (hc : c ≤ b.cords.length) (hne : 0 < (allNs b).length) : sureD b c = spanL (colS b c (allNs b).length) (allNs b).length := by
 have hsm : ∀ l ∈ allNs b, l[c]?.getD default < allN b := by
  intro l hl
  obtain ⟨h1, h2⟩ := allNs_mem hl
  exact h2 _ (mem_getD (by omega))
 have h0 : ∀ l ∈ allNs b, allOK b yes3 yes2 l = true → l[c]?.getD default / b.base.toNat ^ b.places.toNat = 0 := fun l hl _ => Nat.div_eq_of_lt (hsm l hl)
 obtain ⟨x, hx1, ⟨l, hl, _, hl2⟩, hx3⟩ := endR_lo hv (carry := yes2) hc hsm b.places.toNat 0 yes3 0 (by omega) ⟨(allNs b)[0], List.getElem_mem _, allOK_yes b _⟩ h0
 obtain ⟨y, hy1, ⟨k, hk, _, hk2⟩, hy3⟩ := endR_hi hv (carry := yes2) hc hsm b.places.toNat 0 yes3 0 (by omega) ⟨(allNs b)[0], List.getElem_mem _, allOK_yes b _⟩ h0
 have hd : colS b c (allNs b).length = (allNs b).map fun l => ((l[c]?.getD default : Nat) : Int) := by
  unfold colS
  rw [List.take_length]
 have := spanL_uniq (l := (allNs b).map fun l => ((l[c]?.getD default : Nat) : Int)) (lo := x) (hi := y) (List.mem_map.2 ⟨l, hl, by rw [hl2]⟩) (List.mem_map.2 ⟨k, hk, by rw [hk2]⟩) (fun z hz => by
  obtain ⟨l, hl, rfl⟩ := List.mem_map.1 hz
  have := hx3 l hl (allOK_yes b _)
  have := hy3 l hl (allOK_yes b _)
  omega)
 rw [List.length_map] at this
 rw [hd, this]
 unfold sureD
 rw [endF_R hv, endF_R hv]
 have hx1' : endR b (allNs b) yes2 c (fun s => s.lo) 0 b.places.toNat yes3 0 = x := hx1
 have hy1' : endR b (allNs b) yes2 c (fun s => s.hi) 0 b.places.toNat yes3 0 = y := hy1
 rw [hx1', hy1']
end Go.Proofs.YtpangdaijhiohaaGreatDoor.Kn

set_option linter.unusedSimpArgs false
set_option linter.unusedVariables false
set_option linter.unnecessarySimpa false
namespace Go.Proofs.YtpangdaijhiohaaGreatDoor.Kn
open Go Go.V
def crT (B : Nat) : Nat → List Nat → Nat
 | 0, _ => 0
 | k + 1, t => (crT B k t + (t.map (· / B ^ k % B)).sum) / B
theorem sum_split (N B : Nat) (hN : 0 < N) : ∀ t : List Nat, (t.map (· % (N * B))).sum = (t.map (· / N % B)).sum * N + (t.map (· % N)).sum
 | [] => by simp
 | x :: r => by
  simp only [List.map_cons, List.sum_cons]
  rw [sum_split N B hN r, Nat.add_mul]
  have : x % (N * B) = x / N % B * N + x % N := by
   rw [Nat.mod_mul, Nat.mul_comm]
   omega
  omega
theorem crT_eq {B : Nat} (hB : 0 < B) : ∀ (k : Nat) (t : List Nat), crT B k t = (t.map (· % B ^ k)).sum / B ^ k
 | 0, t => by
  have : (t.map (· % B ^ 0)).sum = 0 := by
   induction t with
   | nil => rfl
   | cons x r ih =>
    rw [List.map_cons, List.sum_cons, ih, Nat.pow_zero, Nat.mod_one]
  rw [this, Nat.zero_div]
  rfl
 | k + 1, t => by
  have hN : 0 < B ^ k := Nat.pow_pos hB
  rw [crT, crT_eq hB k t, Nat.pow_succ, ← Nat.div_div_eq_div_mul, sum_split _ _ hN, Nat.mul_comm _ (B ^ k), Nat.mul_add_div hN, Nat.add_comm]
theorem sum_mod_lt {N : Nat} (hN : 0 < N) : ∀ t : List Nat, (t.map (· % N)).sum ≤ t.length * N
 | [] => by simp
 | x :: r => by
  have := sum_mod_lt hN r
  have := Nat.mod_lt x hN
  simp only [List.map_cons, List.sum_cons, List.length_cons, Nat.add_mul]
  omega
theorem crT_le {B : Nat} (hB : 0 < B) (k : Nat) (t : List Nat) : crT B k t ≤ t.length := by
 rw [crT_eq hB]
 have hN : 0 < B ^ k := Nat.pow_pos hB
 exact Nat.div_le_of_le_mul (by rw [Nat.mul_comm]; exact sum_mod_lt hN t)
theorem carN_cr {b : Bk} (hB : 0 < b.base.toNat) (l : List Nat) (p : Nat) : carN b l p = crT b.base.toNat (b.places.toNat - p) (l.take b.cords.length) := by
 rw [crT_eq hB]
 rfl
end Go.Proofs.YtpangdaijhiohaaGreatDoor.Kn

set_option linter.unusedSimpArgs false
set_option linter.unusedVariables false
set_option linter.unnecessarySimpa false
namespace Go.Proofs.YtpangdaijhiohaaGreatDoor.Kn
open Go Go.V
def crS (b : Bk) (p : Nat) (m : Nat) : List Int := ((allNs b).take m).map fun l => ((carN b l p : Nat) : Int)
theorem carryD_spF (b : Bk) (p : Nat) : ∀ k, k ≤ 51 → carryD b p k = spF 51 (fun n => 0 < (solveL b yes3 (carryF p n)).r) k ∧ (carryD b p k).hi ≤ k
 | 0, _ => ⟨by simp [carryD, spF], by simp [carryD]⟩
 | k + 1, hk => by
  obtain ⟨h1, h2⟩ := carryD_spF b p k (by omega)
  have e1 : carryD b p (k + 1) = if 0 < (solveL b yes3 (carryF p k)).r then ⟨min (carryD b p k).lo k, k⟩ else carryD b p k := by
   unfold carryD
   rw [List.range_succ, List.foldl_append]
   rfl
  have e2 : spF 51 (fun n => 0 < (solveL b yes3 (carryF p n)).r) (k + 1) = if 0 < (solveL b yes3 (carryF p k)).r then ⟨min (spF 51 (fun n => 0 < (solveL b yes3 (carryF p n)).r) k).lo k, max (spF 51 (fun n => 0 < (solveL b yes3 (carryF p n)).r) k).hi k⟩ else spF 51 (fun n => 0 < (solveL b yes3 (carryF p n)).r) k := by
   unfold spF
   rw [List.range_succ, List.foldl_append]
   rfl
  rw [e1, e2, ← h1]
  split
  ·dsimp only
   refine ⟨?_, by omega⟩
   rw [Sp.mk.injEq]
   omega
  ·exact ⟨rfl, by omega⟩
theorem allOK_carry {b : Bk} {p n : Nat} (hp : p < b.places.toNat) (l : List Nat) : allOK b yes3 (carryF p n) l = decide (carN b l p = n) := by
 rw [Bool.eq_iff_iff, allOK_iff, decide_eq_true_eq]
 constructor
 ·intro h
  have := (h p hp).2
  simp only [carryF, Bool.or_eq_true, decide_eq_true_eq] at this
  rcases this with h | h
  ·exact absurd trivial h
  ·exact h
 ·intro h q hq
  refine ⟨fun _ _ => rfl, ?_⟩
  simp only [carryF, Bool.or_eq_true, decide_eq_true_eq]
  by_cases e : q = p
  ·subst e; exact .inr h
  ·exact .inl e
theorem carry_eq {b : Bk} (hv : Val b) {p : Nat} (hp : p < b.places.toNat) (hne : 0 < (allNs b).length) : carryD b p 51 = spanL (crS b p (allNs b).length) (allNs b).length := by
 have hB : 0 < b.base.toNat := by have := hv.hb; omega
 have hcr : ∀ l ∈ allNs b, carN b l p < 51 := by
  intro l hl
  have h1 := crT_le hB (b.places.toNat - p) (l.take b.cords.length)
  have h2 := (allNs_mem hl).1
  have := hv.hc
  rw [carN_cr hB]
  rw [List.length_take] at h1
  omega
 have hpos : ∀ n : Nat, 0 < (solveL b yes3 (carryF p n)).r ↔ ∃ l ∈ allNs b, carN b l p = n := by
  intro n
  rw [solveL_r hv]
  have : 0 < ((sumF (allNs b) fun l => if allOK b yes3 (carryF p n) l then 1 else 0 : Nat) : Int) ↔ 0 < sumF (allNs b) fun l => if allOK b yes3 (carryF p n) l then 1 else 0 := by omega
  rw [this, sumF_pos]
  constructor
  ·rintro ⟨l, hl, h⟩
   refine ⟨l, hl, ?_⟩
   split at h
   ·next h2 => rwa [allOK_carry hp, decide_eq_true_eq] at h2
   ·omega
  ·rintro ⟨l, hl, h1⟩
   refine ⟨l, hl, ?_⟩
   rw [allOK_carry hp, h1]
   simp
 rw [(carryD_spF b p 51 (Nat.le_refl _)).1]
 have hd : crS b p (allNs b).length = (allNs b).map fun l => ((carN b l p : Nat) : Int) := by
  unfold crS
  rw [List.take_length]
 rcases spF_spec 51 (fun n => 0 < (solveL b yes3 (carryF p n)).r) 51 (by omega) with ⟨h1, _⟩ | ⟨lo, hi, h1, h2, h3, h4, h5, h6⟩
 ·exact absurd ((hpos _).2 ⟨(allNs b)[0], List.getElem_mem _, rfl⟩) (h1 _ (hcr _ (List.getElem_mem _)))
 ·obtain ⟨l, hl, e1⟩ := (hpos lo).1 h3
  obtain ⟨k, hk, e2⟩ := (hpos hi).1 h4
  have := spanL_uniq (l := (allNs b).map fun l => ((carN b l p : Nat) : Int)) (lo := lo) (hi := hi) (List.mem_map.2 ⟨l, hl, by rw [e1]⟩) (List.mem_map.2 ⟨k, hk, by rw [e2]⟩) (fun x hx => by
   obtain ⟨m, hm, rfl⟩ := List.mem_map.1 hx
   have := h6 _ (hcr m hm) ((hpos _).2 ⟨m, hm, rfl⟩)
   omega)
  rw [List.length_map] at this
  rw [h5, hd, this]
end Go.Proofs.YtpangdaijhiohaaGreatDoor.Kn

set_option linter.unusedSimpArgs false
set_option linter.unusedVariables false
set_option linter.unnecessarySimpa false
namespace Go.Proofs.YtpangdaijhiohaaGreatDoor.Kn
open Go Go.V
def ansS (b : Bk) (is : Bool) (v : Sp) : Sp × Int := if checkB b then if is then if (allNs b).length = 0 then (⟨0, 0⟩, 3) else (v, 0) else (⟨0, 0⟩, 1) else (⟨0, 0⟩, 110)
theorem ansR_S {b : Bk} (is : Bool) (u v : Sp) (h : checkB b = true → is = true → 0 < (allNs b).length → u = v) : ansR b is (SP ⟨0, 0⟩) (SP u) = .tup [SP (ansS b is v).1, .int (ansS b is v).2] := by
 unfold ansR ansS
 cases hc : checkB b with
 | false => rfl
 | true =>
  cases is with
  | false => rfl
  | true =>
   rw [if_pos rfl, if_pos rfl, if_pos rfl, if_pos rfl, many_len (val_of_check hc)]
   by_cases h0 : (allNs b).length = 0
   ·rw [if_pos (by omega), if_pos h0]
   ·rw [if_neg (by omega), if_neg h0, h hc rfl (by omega)]
def sureR (b : Bk) (c : Int) : Sp × Int := ansS b (within c 0 b.cords.length) (spanL (colS b c.toNat (allNs b).length) (allNs b).length)
def carrR (b : Bk) (p : Int) : Sp × Int := ansS b (within p 0 (w64 (b.places - 1))) (spanL (crS b p.toNat (allNs b).length) (allNs b).length)
def manyR2 (b : Bk) : Int × Int := if checkB b then ((allNs b).length, 0) else (0, 110)
theorem c22r (b : Bk) (hs : Small b) : Ctr Tryz.prog 22 [KB b] (.tup [.int (manyR2 b).1, .int (manyR2 b).2]) := by
 have := c22 b hs
 unfold manyR2
 cases hc : checkB b with
 | false => simpa [hc] using this
 | true =>
  rw [many_len (val_of_check hc)] at this
  simpa [hc] using this
theorem c16r (b : Bk) (hs : Small b) (c : Int) : Ctr Tryz.prog 16 [KB b, .int c] (.tup [SP (sureR b c).1, .int (sureR b c).2]) := by
 have := c16 b hs c
 rwa [ansR_S _ _ (spanL (colS b c.toNat (allNs b).length) (allNs b).length) (fun hc hi hne => sure_eq (val_of_check hc) (by simp [within] at hi; omega) hne)] at this
theorem in_place {b : Bk} (hc : checkB b = true) {p : Int} (hi : within p 0 (w64 (b.places - 1)) = true) : p.toNat < b.places.toNat := by
 have hv := val_of_check hc
 have := hv.hp
 rw [w64_id (by omega)] at hi
 have : 0 ≤ p ∧ p ≤ b.places - 1 := by simpa [within] using hi
 omega
theorem c37r (b : Bk) (hs : Small b) (p : Int) : Ctr Tryz.prog 37 [KB b, .int p] (.tup [SP (carrR b p).1, .int (carrR b p).2]) := by
 have := c37 b hs p
 rwa [ansR_S _ _ (spanL (crS b p.toNat (allNs b).length) (allNs b).length) (fun hc hi hne => carry_eq (val_of_check hc) (in_place hc hi) hne)] at this
end Go.Proofs.YtpangdaijhiohaaGreatDoor.Kn

set_option linter.unusedSimpArgs false
set_option linter.unusedVariables false
set_option linter.unnecessarySimpa false
namespace Go.Proofs.YtpangdaijhiohaaGreatDoor.Kn
open Go Go.V
theorem isum_le {n : Nat} {f : Nat → Int} {K : Int} (h : ∀ i, i < n → f i ≤ K) : isum n f ≤ n * K := by
 induction n with
 | zero => simp [isum_zero]
 | succ n ih =>
  rw [isum_succ]
  have h1 := ih fun i hi => h i (by omega)
  have h2 := h n (by omega)
  have : ((n + 1 : Nat) : Int) * K = n * K + K := by
   rw [Int.natCast_add, Int.add_mul]
   simp
  omega
theorem knotsL_bd {b : Bk} (hv : Val b) {c : Nat} (hc : c ≤ b.cords.length) (l : List Nat) : 0 ≤ (isum b.places.toNat fun p => costL (cordSp b c p) (dgN b l c p : Nat)) ∧ (isum b.places.toNat fun p => costL (cordSp b c p) (dgN b l c p : Nat)) ≤ 40 := by
 have hbb := hv.hb
 have hpp := hv.hp
 obtain ⟨h1, h2⟩ := cordAt_val hv hc
 refine ⟨isum_nonneg fun p _ => costL_nonneg _ _, ?_⟩
 have : (isum b.places.toNat fun p => costL (cordSp b c p) (dgN b l c p : Nat)) ≤ (b.places.toNat : Int) * 10 := isum_le fun p hp => by
  obtain ⟨s1, s2, s3⟩ := h2 _ (mem_getD (show p < (cordAt b c).length by omega))
  have : dgN b l c p < b.base.toNat := Nat.mod_lt _ (by omega)
  unfold costL cordSp
  omega
 omega
theorem costN_bd {b : Bk} (hv : Val b) (l : List Nat) : 0 ≤ costN b l ∧ costN b l ≤ 200 := by
 have hcl := hv.hc
 refine ⟨isum_nonneg fun c hc => (knotsL_bd hv (by omega) l).1, ?_⟩
 have : costN b l ≤ ((b.cords.length + 1 : Nat) : Int) * 40 := isum_le fun c hc => (knotsL_bd hv (by omega) l).2
 omega
end Go.Proofs.YtpangdaijhiohaaGreatDoor.Kn

set_option linter.unusedSimpArgs false
set_option linter.unusedVariables false
set_option linter.unnecessarySimpa false
namespace Go.Proofs.YtpangdaijhiohaaGreatDoor.Kn
open Go Go.V
abbrev frNs (b : Bk) : List (List Nat) := sumsN b true b.cords.length []
theorem fr_some {b : Bk} (h0 : 0 < allN b) : ∀ (k : Nat) (first : List Nat), first.sum = 0 → ∃ l, l ∈ sumsN b true k first
 | 0, first, h => by
  unfold sumsN
  rw [if_pos (by simp [h, h0])]
  exact ⟨_, List.mem_singleton.2 rfl⟩
 | k + 1, first, h => by
  obtain ⟨l, hl⟩ := fr_some h0 k (first ++ [0]) (by simpa using h)
  refine ⟨l, ?_⟩
  unfold sumsN
  exact List.mem_flatMap.2 ⟨0, List.mem_filter.2 ⟨by simpa using h0, by simp [isN]⟩, hl⟩
def minC (b : Bk) (L : List (List Nat)) (m : Nat) : Int := (L.take m).foldl (fun a l => min a (costN b l)) (costN b (L[0]?.getD default))
def leastB (b : Bk) : Int := minC b (frNs b) (frNs b).length
def retL (b : Bk) (m : Nat) : List (List Nat) := ((frNs b).take m).filter fun l => decide (costN b l = leastB b)
end Go.Proofs.YtpangdaijhiohaaGreatDoor.Kn

set_option linter.unusedSimpArgs false
set_option linter.unusedVariables false
set_option linter.unnecessarySimpa false
namespace Go.Proofs.YtpangdaijhiohaaGreatDoor.Kn
open Go Go.V
theorem allC_at' {b : Bk} (c : Nat) (h : c ≤ b.cords.length) : (allC b)[c]?.getD default = cordAt b c := by
 unfold allC cordAt
 split
 ·next e => subst e; simp
 ·next e =>
  rw [List.getElem?_append_left (by omega)]
abbrev kn1 (b : Bk) (c : Nat) (l : List Nat) : Int := isum b.places.toNat fun p => costL (cordSp b c p) (dgN b l c p : Nat)
abbrev retA (b : Bk) : List (List Nat) := retL b (frNs b).length
def blR (b : Bk) (c : Nat) : Bool := (retA b).any fun l => decide (0 < kn1 b c l)
def blL (b : Bk) (k : Nat) : List Int := ((List.range k).filter (blR b)).map fun n : Nat => (n : Int)
def blameV (b : Bk) : List Int × Int := if checkB b then if leastB b = 0 then ([], 3) else (blL b (b.cords.length + 1), 0) else ([], 110)
theorem ret_mem {b : Bk} {l : List Nat} (h : l ∈ retA b) : l ∈ frNs b ∧ costN b l = leastB b := by
 unfold retA retL at h
 rw [List.take_length] at h
 have := List.mem_filter.1 h
 simpa using this
theorem minC_spec (b : Bk) (L : List (List Nat)) : ∀ m, m ≤ L.length → (∀ l ∈ L.take m, minC b L m ≤ costN b l) ∧ (minC b L m = costN b (L[0]?.getD default) ∨ ∃ l ∈ L.take m, costN b l = minC b L m)
 | 0, _ => ⟨by simp, .inl (by simp [minC])⟩
 | m + 1, hm => by
  obtain ⟨h1, h2⟩ := minC_spec b L m (by omega)
  have e : minC b L (m + 1) = min (minC b L m) (costN b (L[m]?.getD default)) := by
   unfold minC
   rw [take_snoc (by omega), List.foldl_append]
   rfl
  rw [e, take_snoc (show m < L.length by omega)]
  generalize L[m]?.getD default = x
  refine ⟨fun l hl => ?_, ?_⟩
  ·rcases List.mem_append.1 hl with hl | hl
   ·have := h1 l hl; omega
   ·simp only [List.mem_singleton] at hl
    subst hl
    omega
  ·rcases Int.lt_or_le (costN b x) (minC b L m) with h | h
   ·exact .inr ⟨x, by simp, by omega⟩
   ·rcases h2 with h2 | ⟨l, hl, h2⟩
    ·exact .inl (by omega)
    ·exact .inr ⟨l, by simp [hl], by omega⟩
theorem least_spec {b : Bk} (hv : Val b) : (∀ l ∈ frNs b, leastB b ≤ costN b l) ∧ ∃ l ∈ frNs b, costN b l = leastB b := by
 have hbb := hv.hb
 have h0 : 0 < allN b := Nat.pow_pos (by omega)
 obtain ⟨l0, hl0⟩ := fr_some h0 b.cords.length [] rfl
 have hpos : 0 < (frNs b).length := List.length_pos_of_mem hl0
 obtain ⟨h1, h2⟩ := minC_spec b (frNs b) _ (Nat.le_refl _)
 rw [List.take_length] at h1 h2
 refine ⟨h1, ?_⟩
 rcases h2 with h2 | ⟨l, hl, h2⟩
 ·exact ⟨_, mem_getD hpos, h2.symm⟩
 ·exact ⟨l, hl, h2⟩
theorem least_k {b : Bk} (hv : Val b) : (solveL b yes3 yes2).k = leastB b := by
 obtain ⟨h1, h2⟩ := solveL_k hv yes3 yes2
 obtain ⟨h3, l, hl, h4⟩ := least_spec hv
 have h5 := h1 l hl (allOK_yes b l)
 have h6 := costN_bd hv l
 rcases h2 with h2 | ⟨l', hl', _, h7⟩
 ·omega
 ·have := h3 l' hl'
  omega
theorem blame_iff {b : Bk} (hv : Val b) {c p d : Nat} (hc : c ≤ b.cords.length) (hp : p < b.places.toNat) : (solveL b (onlyF yes3 c p d) yes2).k = leastB b ↔ ∃ l ∈ retA b, dgN b l c p = d := by
 obtain ⟨h1, h2⟩ := solveL_k hv (onlyF yes3 c p d) yes2
 obtain ⟨h3, l0, hl0, h4⟩ := least_spec hv
 have h6 := costN_bd hv l0
 have hok : ∀ l, allOK b (onlyF yes3 c p d) yes2 l = decide (dgN b l c p = d) := fun l => by rw [allOK_only hc hp, allOK_yes, Bool.true_and]
 constructor
 ·intro h
  rcases h2 with h2 | ⟨l, hl, h7, h8⟩
  ·omega
  ·rw [hok, decide_eq_true_eq] at h7
   refine ⟨l, ?_, h7⟩
   unfold retA retL
   rw [List.take_length]
   exact List.mem_filter.2 ⟨hl, by rw [h8, h]; simp⟩
 ·rintro ⟨l, hl, h7⟩
  obtain ⟨hl1, hl2⟩ := ret_mem hl
  have h8 := h1 l hl1 (by rw [hok, h7]; simp)
  rcases h2 with h2 | ⟨l', hl', _, h9⟩
  ·omega
  ·have := h3 l' hl'
   omega
theorem blame_eq {b : Bk} (hv : Val b) {c : Nat} (hc : c ≤ b.cords.length) : blameC b c = blR b c := by
 have hcl := (cordAt_val hv hc).1
 have hpp := hv.hp
 have hB : 0 < b.base.toNat := by have := hv.hb; omega
 have hAt : (allC b)[c]?.getD default = cordAt b c := allC_at' c hc
 rw [Bool.eq_iff_iff]
 unfold blameC blR
 rw [hAt, List.any_eq_true, List.any_eq_true]
 constructor
 ·rintro ⟨p, hp, h⟩
  obtain ⟨d, hd, h⟩ := List.any_eq_true.1 h
  have hp' : p < b.places.toNat := by have := List.mem_range.1 hp; omega
  unfold blameAt at h
  rw [hAt, Bool.and_eq_true, decide_eq_true_eq, decide_eq_true_eq, least_k hv, blame_iff hv hc hp'] at h
  obtain ⟨h1, l, hl, h2⟩ := h
  refine ⟨l, hl, ?_⟩
  rw [decide_eq_true_eq]
  have hn := isum_nonneg (n := b.places.toNat) (f := fun p => costL (cordSp b c p) (dgN b l c p : Nat)) fun _ _ => costL_nonneg _ _
  rcases Int.lt_or_le 0 (kn1 b c l) with h | h
  ·exact h
  ·have h0 : kn1 b c l = 0 := by unfold kn1 at h ⊢; omega
   have := (isum_eq0 fun _ _ => costL_nonneg _ _).1 h0 p hp'
   rw [h2] at this
   unfold cordSp at this
   omega
 ·rintro ⟨l, hl, h⟩
  rw [decide_eq_true_eq] at h
  have : ∃ p, p < b.places.toNat ∧ costL (cordSp b c p) (dgN b l c p : Nat) ≠ 0 := by
   apply Classical.byContradiction
   intro hn
   have : kn1 b c l = 0 := (isum_eq0 fun _ _ => costL_nonneg _ _).2 fun p hp => Classical.byContradiction fun h => hn ⟨p, hp, h⟩
   omega
  obtain ⟨p, hp, h1⟩ := this
  refine ⟨p, List.mem_range.2 (by omega), List.any_eq_true.2 ⟨dgN b l c p, List.mem_range.2 (Nat.mod_lt _ hB), ?_⟩⟩
  unfold blameAt
  rw [hAt, Bool.and_eq_true, decide_eq_true_eq, decide_eq_true_eq, least_k hv, blame_iff hv hc hp]
  refine ⟨?_, l, hl, rfl⟩
  have := costL_nonneg (cordSp b c p) (dgN b l c p : Nat)
  unfold cordSp at this h1
  omega
theorem blameL_eq {b : Bk} (hv : Val b) : blameL b (b.cords.length + 1) = blL b (b.cords.length + 1) := by
 unfold blameL blL
 congr 1
 refine List.filter_congr fun c hc => ?_
 exact blame_eq hv (by have := List.mem_range.1 hc; omega)
theorem blL_none {b : Bk} (hv : Val b) : (blL b (b.cords.length + 1)).length = 0 ↔ leastB b = 0 := by
 obtain ⟨h3, l0, hl0, h4⟩ := least_spec hv
 have hl0' : l0 ∈ retA b := by
  unfold retA retL
  rw [List.take_length]
  exact List.mem_filter.2 ⟨hl0, by rw [h4]; simp⟩
 have hnn : ∀ l : List Nat, ∀ c, c < b.cords.length + 1 → 0 ≤ kn1 b c l := fun l c hc => (knotsL_bd hv (by omega) l).1
 constructor
 ·intro h
  have hnil : (List.range (b.cords.length + 1)).filter (blR b) = [] := by
   unfold blL at h
   rw [List.length_map] at h
   exact List.eq_nil_of_length_eq_zero h
  have : costN b l0 = 0 := (isum_eq0 (hnn l0)).2 fun c hc => by
   have := List.filter_eq_nil_iff.1 hnil c (List.mem_range.2 hc)
   have h2 : ¬ 0 < kn1 b c l0 := fun h => this (List.any_eq_true.2 ⟨l0, hl0', by simpa using h⟩)
   have := hnn l0 c hc
   omega
  omega
 ·intro h
  unfold blL
  rw [List.length_map, List.length_eq_zero_iff, List.filter_eq_nil_iff]
  intro c hc hb
  obtain ⟨l, hl, h5⟩ := List.any_eq_true.1 hb
  rw [decide_eq_true_eq] at h5
  have h6 := (ret_mem hl).2
  rw [h] at h6
  have := (isum_eq0 (hnn l)).1 h6 c (List.mem_range.1 hc)
  omega
theorem c38r (b : Bk) (hs : Small b) : Ctr Tryz.prog 38 [KB b] (.tup [IS (blameV b).1, .int (blameV b).2]) := by
 have := c38 b hs
 unfold blameV
 cases hc : checkB b with
 | false =>
  rw [hc] at this
  exact this
 | true =>
  have hv := val_of_check hc
  rw [blameL_eq hv, hc, if_pos rfl] at this
  rw [if_pos rfl]
  by_cases h0 : leastB b = 0
  ·rw [if_pos ((blL_none hv).2 h0)] at this
   rw [if_pos h0]
   exact this
  ·rw [if_neg fun h => h0 ((blL_none hv).1 h)] at this
   rw [if_neg h0]
   exact this
end Go.Proofs.YtpangdaijhiohaaGreatDoor.Kn

set_option linter.unusedSimpArgs false
set_option linter.unusedVariables false
set_option linter.unnecessarySimpa false
namespace Go.Proofs.YtpangdaijhiohaaGreatDoor.Kn
open Go Go.V
theorem dig_num {B : Nat} (hB : 2 ≤ B ∧ B ≤ 10) : ∀ (P : Nat) (x : List Int), x.length = P → P ≤ 4 → (∀ d ∈ x, 0 ≤ d ∧ d < B) → ∃ n : Nat, numL (B : Int) x = n ∧ n < B ^ P ∧ tieN B P n = x
 | 0, x, hx, _, _ => by
  have : x = [] := List.eq_nil_of_length_eq_zero hx
  subst this
  exact ⟨0, rfl, by simp, rfl⟩
 | P + 1, x, hx, hP, hd => by
  rcases List.eq_nil_or_concat x with h | ⟨y, d, h⟩
  ·subst h; simp at hx
  ·rw [List.concat_eq_append] at h
   subst h
   simp only [List.length_append, List.length_singleton, Nat.add_right_cancel_iff] at hx
   obtain ⟨m, h1, h2, h3⟩ := dig_num hB P y hx (by omega) fun e he => hd e (by simp [he])
   obtain ⟨d1, d2⟩ := hd d (by simp)
   obtain ⟨e, rfl⟩ : ∃ e : Nat, d = e := ⟨d.toNat, by omega⟩
   have hpw : B ^ P ≤ 10000 := pow_le hB.2 (by omega)
   have hmB : m * B ≤ 10000 * 10 := Nat.mul_le_mul (by omega) hB.2
   have e1 : (m : Int) * (B : Int) = ((m * B : Nat) : Int) := (Int.natCast_mul _ _).symm
   have hlt : m * B + e < B ^ (P + 1) := by
    have : (m + 1) * B ≤ B ^ P * B := Nat.mul_le_mul_right B (by omega)
    rw [Nat.pow_succ]
    rw [Nat.add_mul, Nat.one_mul] at this
    omega
   have hB0 : 0 < B := by omega
   have heB : e < B := by omega
   refine ⟨m * B + e, ?_, hlt, ?_⟩
   ·unfold numL at h1 ⊢
    rw [List.foldl_append, h1, List.foldl_cons, List.foldl_nil, e1, w64_id (n := ((m * B : Nat) : Int)) (by omega), w64_id (by omega)]
    omega
   ·rw [tieN]
    have q1 : (m * B + e) / B = m := by rw [Nat.mul_comm, Nat.mul_add_div hB0, Nat.div_eq_of_lt heB, Nat.add_zero]
    have q2 : (m * B + e) % B = e := by rw [Nat.mul_comm, Nat.mul_add_mod, Nat.mod_eq_of_lt heB]
    rw [q1, q2, h3]
theorem dig_tie {b : Bk} (hv : Val b) {x : List Int} (h : areDig b x = true) : ∃ n : Nat, numL b.base x = n ∧ n < allN b ∧ tieN b.base.toNat b.places.toNat n = x := by
 have hbb := hv.hb
 have hpp := hv.hp
 simp only [areDig, Bool.and_eq_true, decide_eq_true_eq, Bool.not_eq_true', List.any_eq_false] at h
 obtain ⟨h1, h2⟩ := h
 have hBb : ((b.base.toNat : Nat) : Int) = b.base := by omega
 have := dig_num (B := b.base.toNat) (by omega) b.places.toNat x (by omega) (by omega) fun d hd => by
  have := h2 d hd
  rw [w64_id (by omega)] at this
  simp only [within, Bool.not_eq_true', Bool.and_eq_false_iff, decide_eq_false_iff_not, Bool.not_eq_false, Bool.and_eq_true, decide_eq_true_eq] at this
  omega
 rwa [hBb] at this
def nmL (b : Bk) (x : List Int) : Nat := (numL b.base x).toNat
theorem sumW_nat {b : Bk} (hv : Val b) : ∀ (r : List (List Int)) (n : Nat), (∀ l ∈ r, areDig b l = true) → n + 10000 * r.length ≤ 9000000000 → r.foldl (fun n x => w64 (n + numL b.base x)) (n : Int) = ((n + (r.map (nmL b)).sum : Nat) : Int)
 | [], n, _, _ => by simp
 | x :: r, n, hd, hn => by
  simp only [List.length_cons] at hn
  obtain ⟨d1, d2⟩ := numL_dig hv (hd x (by simp))
  have e0 : numL b.base x = (nmL b x : Int) := by unfold nmL; omega
  have e : w64 ((n : Int) + numL b.base x) = ((n + nmL b x : Nat) : Int) := by rw [w64_id (by omega)]; omega
  rw [List.foldl_cons, e, sumW_nat hv r (n + nmL b x) (fun l hl => hd l (by simp [hl])) (by unfold nmL; omega)]
  simp only [List.map_cons, List.sum_cons]
  congr 1
  omega
theorem spanL_map {L : List (List Nat)} (f : List Nat → Int) (h : 0 < L.length) : (∃ l ∈ L, (spanL (L.map f) L.length).lo = f l) ∧ (∃ l ∈ L, (spanL (L.map f) L.length).hi = f l) ∧ ∀ l ∈ L, (spanL (L.map f) L.length).lo ≤ f l ∧ f l ≤ (spanL (L.map f) L.length).hi := by
 obtain ⟨⟨x, hx, h1⟩, ⟨y, hy, h2⟩, h3⟩ := spanL_spec (L.map f) (by simpa using h) L.length h (by simp)
 have e : (L.map f).take L.length = L.map f := List.take_of_length_le (by simp)
 rw [e] at hx hy h3
 obtain ⟨l, hl, rfl⟩ := List.mem_map.1 hx
 obtain ⟨k, hk, rfl⟩ := List.mem_map.1 hy
 exact ⟨⟨l, hl, h1⟩, ⟨k, hk, h2⟩, fun m hm => h3 _ (List.mem_map.2 ⟨m, hm, rfl⟩)⟩
end Go.Proofs.YtpangdaijhiohaaGreatDoor.Kn

set_option linter.unusedSimpArgs false
set_option linter.unusedVariables false
set_option linter.unnecessarySimpa false
namespace Go.Proofs.YtpangdaijhiohaaGreatDoor.Kn
open Go Go.V
end Go.Proofs.YtpangdaijhiohaaGreatDoor.Kn

set_option linter.unusedSimpArgs false
set_option linter.unusedVariables false
set_option linter.unnecessarySimpa false
namespace Go.Proofs.YtpangdaijhiohaaGreatDoor.Kn
open Go Go.V
def withB (b : Bk) (c p : Nat) (s : Sp) : Bk :=
 if c = b.cords.length then { b with top := b.top.set p s } else { b with cords := b.cords.set c ((b.cords[c]?.getD default).set p s) }
theorem withB_base (b : Bk) (c p : Nat) (s : Sp) : (withB b c p s).base = b.base := by unfold withB; split <;> rfl
theorem withB_places (b : Bk) (c p : Nat) (s : Sp) : (withB b c p s).places = b.places := by unfold withB; split <;> rfl
theorem withB_len (b : Bk) (c p : Nat) (s : Sp) : (withB b c p s).cords.length = b.cords.length := by unfold withB; split <;> simp
theorem withB_all (b : Bk) (c p : Nat) (s : Sp) : allN (withB b c p s) = allN b := by
 unfold allN
 rw [withB_base, withB_places]
theorem withB_cord {b : Bk} {c p : Nat} {s : Sp} (hc : c ≤ b.cords.length) (e : Nat) (he : e ≤ b.cords.length) : cordAt (withB b c p s) e = if e = c then (cordAt b c).set p s else cordAt b e := by
 unfold cordAt
 rw [withB_len]
 unfold withB
 by_cases h1 : c = b.cords.length
 ·rw [if_pos h1]
  by_cases h2 : e = b.cords.length
  ·rw [if_pos h2, if_pos (by omega), if_pos h1]
  ·rw [if_neg h2, if_neg (by omega), if_neg h2]
 ·rw [if_neg h1]
  by_cases h2 : e = b.cords.length
  ·rw [if_pos h2, if_neg (by omega), if_pos h2]
  ·rw [if_neg h2, if_neg h2]
   by_cases h3 : e = c
   ·subst h3
    rw [if_pos rfl, if_neg h2]
    simp [show e < b.cords.length by omega]
   ·rw [if_neg h3]
    rw [List.getElem?_set_ne (by omega)]
theorem frees_eq {b b' : Bk} (h1 : allN b' = allN b) : ∀ (k : Nat) (first : List Nat), sumsN b' true k first = sumsN b true k first
 | 0, first => by
  unfold sumsN
  simp [h1]
 | k + 1, first => by
  unfold sumsN
  have e : (List.range (allN b')).filter (isN b' first.length true) = (List.range (allN b)).filter (isN b first.length true) := by
   rw [h1]
   exact List.filter_congr fun n _ => rfl
  rw [e]
  congr 1
  funext n
  exact frees_eq h1 k (first ++ [n])
theorem frNs_with (b : Bk) (c p : Nat) (s : Sp) : frNs (withB b c p s) = frNs b := by
 unfold frNs
 rw [withB_len]
 exact frees_eq (withB_all b c p s) _ _
def fitFrom (b : Bk) (a k : Nat) (l : List Nat) : Bool := (List.range k).all (fun c => fitsL (cordAt b (a + c)) (tieN b.base.toNat b.places.toNat (l[a + c]?.getD default))) && fitsL b.top (tieN b.base.toNat b.places.toNat (l[a + k]?.getD default))
theorem sums_pre (b : Bk) (f : Bool) : ∀ (k : Nat) (first l : List Nat), l ∈ sumsN b f k first → ∀ c, c < first.length → l[c]? = first[c]?
 | 0, first, l, hl, c, hc => by
  unfold sumsN at hl
  split at hl
  ·simp only [List.mem_singleton] at hl
   subst hl
   exact List.getElem?_append_left hc
  ·simp at hl
 | k + 1, first, l, hl, c, hc => by
  unfold sumsN at hl
  obtain ⟨n, _, hl⟩ := List.mem_flatMap.1 hl
  have := sums_pre b f k (first ++ [n]) l hl c (by simp; omega)
  rw [this, List.getElem?_append_left hc]
theorem sums_filter (b : Bk) : ∀ (k : Nat) (first : List Nat), sumsN b false k first = (sumsN b true k first).filter (fitFrom b first.length k)
 | 0, first => by
  unfold sumsN
  by_cases h : first.sum < allN b
  ·by_cases h2 : fitsL b.top (tieN b.base.toNat b.places.toNat first.sum) = true
   ·rw [if_pos (by simp [h, h2]), if_pos (by simp [h])]
    simp [fitFrom, h2]
   ·rw [if_neg (by simp [h2]), if_pos (by simp [h])]
    simp [fitFrom, h2]
  ·rw [if_neg (by simp [h]), if_neg (by simp [h])]
   rfl
 | k + 1, first => by
  unfold sumsN
  rw [List.filter_flatMap]
  have e : (List.range (allN b)).filter (isN b first.length true) = List.range (allN b) := List.filter_eq_self.2 fun n _ => by simp [isN]
  rw [e]
  have key : ∀ L : List Nat, ((L.filter (isN b first.length false)).flatMap fun n => sumsN b false k (first ++ [n])) = L.flatMap fun n => (sumsN b true k (first ++ [n])).filter (fitFrom b first.length (k + 1)) := by
   intro L
   induction L with
   | nil => rfl
   | cons n r ih =>
    have hn : ∀ l ∈ sumsN b true k (first ++ [n]), l[first.length]?.getD default = n := by
     intro l hl
     rw [sums_pre b true k (first ++ [n]) l hl first.length (by simp)]
     simp
    have hf : ∀ l ∈ sumsN b true k (first ++ [n]), fitFrom b first.length (k + 1) l = (isN b first.length false n && fitFrom b (first ++ [n]).length k l) := by
     intro l hl
     unfold fitFrom
     rw [List.range_succ_eq_map, List.all_cons, List.all_map, Nat.add_zero, hn l hl, List.length_append, List.length_singleton]
     have e2 : ((fun c => fitsL (cordAt b (first.length + c)) (tieN b.base.toNat b.places.toNat (l[first.length + c]?.getD default))) ∘ Nat.succ) = fun c => fitsL (cordAt b (first.length + 1 + c)) (tieN b.base.toNat b.places.toNat (l[first.length + 1 + c]?.getD default)) := by
      funext c
      simp only [Function.comp, Nat.succ_eq_add_one]
      rw [show first.length + (c + 1) = first.length + 1 + c by omega]
     rw [e2, show first.length + (k + 1) = first.length + 1 + k by omega]
     simp [isN, Bool.and_assoc]
    rw [List.flatMap_cons, ← ih]
    by_cases h : isN b first.length false n = true
    ·rw [List.filter_cons_of_pos h, List.flatMap_cons, sums_filter b k (first ++ [n])]
     congr 1
     exact List.filter_congr fun l hl => by rw [hf l hl, h, Bool.true_and]
    ·rw [List.filter_cons_of_neg h]
     have : (sumsN b true k (first ++ [n])).filter (fitFrom b first.length (k + 1)) = [] := List.filter_eq_nil_iff.2 fun l hl => by
      rw [hf l hl]
      simp only [Bool.not_eq_true] at h
      rw [h]
      simp
     rw [this, List.nil_append]
  exact key _
theorem fitFrom_cost {b : Bk} (hv : Val b) (l : List Nat) : fitFrom b 0 b.cords.length l = decide (costN b l = 0) := by
 rw [Bool.eq_iff_iff, decide_eq_true_eq]
 unfold fitFrom costN
 rw [isum_eq0 fun c hc => (knotsL_bd hv (by omega) l).1, Bool.and_eq_true, List.all_eq_true]
 have htop : cordAt b b.cords.length = b.top := by
  unfold cordAt
  rw [if_pos rfl]
 constructor
 ·rintro ⟨h1, h2⟩ c hc
  rw [← fits_cost hv (by omega)]
  rcases Nat.lt_or_ge c b.cords.length with h | h
  ·have := h1 c (List.mem_range.2 h)
   simpa using this
  ·have : c = b.cords.length := by omega
   subst this
   rw [htop]
   simpa using h2
 ·intro h
  refine ⟨fun c hc => ?_, ?_⟩
  ·have hc' := List.mem_range.1 hc
   have := (fits_cost hv (show c ≤ b.cords.length by omega) l).2 (h c (by omega))
   simpa using this
  ·have := (fits_cost hv (Nat.le_refl b.cords.length) l).2 (h _ (by omega))
   rw [htop] at this
   simpa using this
theorem allNs_fr {b : Bk} (hv : Val b) : allNs b = (frNs b).filter fun l => decide (costN b l = 0) := by
 unfold allNs frNs
 rw [sums_filter]
 exact List.filter_congr fun l _ => fitFrom_cost hv l
end Go.Proofs.YtpangdaijhiohaaGreatDoor.Kn

set_option linter.unusedSimpArgs false
set_option linter.unusedVariables false
set_option linter.unnecessarySimpa false
namespace Go.Proofs.YtpangdaijhiohaaGreatDoor.Kn
open Go Go.V
theorem dgN_with (b : Bk) (c p : Nat) (s : Sp) (l : List Nat) (e q : Nat) : dgN (withB b c p s) l e q = dgN b l e q := by
 unfold dgN
 rw [withB_base, withB_places]
theorem cordSp_with {b : Bk} (hv : Val b) {c p : Nat} {s : Sp} (hc : c ≤ b.cords.length) (hp : p < b.places.toNat) {e : Nat} (he : e ≤ b.cords.length) (q : Nat) :
  cordSp (withB b c p s) e q = if e = c ∧ q = p then s else cordSp b e q := by
 have h1 := (cordAt_val hv hc).1
 unfold cordSp
 rw [withB_cord hc e he]
 by_cases h : e = c
 ·subst h
  rw [if_pos rfl]
  by_cases h2 : q = p
  ·subst h2
   rw [if_pos ⟨rfl, rfl⟩]
   simp [show q < (cordAt b e).length by omega]
  ·rw [if_neg (fun h => h2 h.2), List.getElem?_set_ne (by omega)]
 ·rw [if_neg h, if_neg (fun h2 => h h2.1)]
theorem isum_upd {n i : Nat} (hi : i < n) {f g : Nat → Int} (h : ∀ j, j < n → j ≠ i → f j = g j) : isum n f + g i = isum n g + f i := by
 induction n with
 | zero => omega
 | succ n ih =>
  rw [isum_succ, isum_succ]
  rcases Nat.lt_or_ge i n with h1 | h1
  ·have := ih h1 fun j hj hne => h j (by omega) hne
   have h2 := h n (by omega) (by omega)
   omega
  ·have : i = n := by omega
   subst this
   have := isum_congr (n := i) (f := f) (g := g) fun j hj => h j (by omega) (by omega)
   omega
theorem costN_with {b : Bk} (hv : Val b) {c p : Nat} {s : Sp} (hc : c ≤ b.cords.length) (hp : p < b.places.toNat) (l : List Nat) :
  costN (withB b c p s) l + costL (cordSp b c p) (dgN b l c p : Nat) = costN b l + costL s (dgN b l c p : Nat) := by
 have hpl := withB_places b c p s
 have e1 : costN (withB b c p s) l = isum (b.cords.length + 1) fun e => isum b.places.toNat fun q => costL (if e = c ∧ q = p then s else cordSp b e q) (dgN b l e q : Nat) := by
  unfold costN
  rw [withB_len, hpl]
  exact isum_congr fun e he => isum_congr fun q hq => by rw [cordSp_with hv hc hp (by omega), dgN_with]
 have h1 := isum_upd (n := b.cords.length + 1) (i := c) (by omega) (f := fun e => isum b.places.toNat fun q => costL (if e = c ∧ q = p then s else cordSp b e q) (dgN b l e q : Nat)) (g := fun e => isum b.places.toNat fun q => costL (cordSp b e q) (dgN b l e q : Nat)) fun j _ hne => isum_congr fun q _ => by
  rw [if_neg fun h => hne h.1]
 have h2 := isum_upd (n := b.places.toNat) (i := p) hp (f := fun q => costL (if c = c ∧ q = p then s else cordSp b c q) (dgN b l c q : Nat)) (g := fun q => costL (cordSp b c q) (dgN b l c q : Nat)) fun j _ hne => by
  rw [if_neg fun h => hne h.2]
 simp only [and_self, if_true, true_and] at h1 h2
 rw [e1]
 unfold costN
 omega
theorem val_with {b : Bk} (hv : Val b) {c p : Nat} {s : Sp} (hc : c ≤ b.cords.length) (hs : 0 ≤ s.lo ∧ s.lo ≤ s.hi ∧ s.hi < b.base) : Val (withB b c p s) := by
 have hset : ∀ l : List Sp, (∀ t ∈ l, 0 ≤ t.lo ∧ t.lo ≤ t.hi ∧ t.hi < b.base) → ∀ t ∈ l.set p s, 0 ≤ t.lo ∧ t.lo ≤ t.hi ∧ t.hi < b.base := by
  intro l hl t ht
  rcases List.mem_or_eq_of_mem_set ht with h | h
  ·exact hl t h
  ·subst h; exact hs
 refine ⟨by rw [withB_base]; exact hv.hb, by rw [withB_places]; exact hv.hp, by rw [withB_len]; exact hv.hc, ?_, ?_⟩
 ·rw [withB_places, withB_base]
  unfold withB
  split
  ·exact hv.cord
  ·intro l hl
   rcases List.mem_or_eq_of_mem_set hl with h | h
   ·exact hv.cord l h
   ·subst h
    have hcl : c < b.cords.length := by omega
    obtain ⟨h1, h2⟩ := hv.cord _ (mem_getD hcl)
    exact ⟨by rw [List.length_set]; exact h1, hset _ h2⟩
 ·rw [withB_places, withB_base]
  unfold withB
  split
  ·exact ⟨by rw [List.length_set]; exact hv.top.1, hset _ hv.top.2⟩
  ·exact hv.top
end Go.Proofs.YtpangdaijhiohaaGreatDoor.Kn

set_option linter.unusedSimpArgs false
set_option linter.unusedVariables false
set_option linter.unnecessarySimpa false
namespace Go.Proofs.YtpangdaijhiohaaGreatDoor.Kn
open Go Go.V
theorem least_zero {b : Bk} (hv : Val b) : leastB b = 0 ↔ 0 < (allNs b).length := by
 obtain ⟨g1, l, hl, g2⟩ := least_spec hv
 rw [allNs_fr hv]
 constructor
 ·intro h
  exact List.length_pos_of_mem (List.mem_filter.2 ⟨hl, by simp [g2, h]⟩)
 ·intro h
  obtain ⟨k, hk⟩ := List.exists_mem_of_length_pos h
  obtain ⟨hk1, hk2⟩ := List.mem_filter.1 hk
  have := g1 k hk1
  have := costN_bd hv l
  simp only [decide_eq_true_eq] at hk2
  omega
end Go.Proofs.YtpangdaijhiohaaGreatDoor.Kn

set_option linter.unusedSimpArgs false
set_option linter.unusedVariables false
set_option linter.unnecessarySimpa false
namespace Go.Proofs.YtpangdaijhiohaaGreatDoor.Kn
open Go Go.V
@[simp] theorem flat_len (l : List Sp) : (flat (l.map SP)).length = l.length * 2 := by
 rw [flat_length (sz := 2)]
 ·simp
 ·intro e he
  obtain ⟨s, _, rfl⟩ := List.mem_map.1 he
  rfl
theorem setAt_flat (l : List Sp) (p : Nat) (a c : Int) (h : p < l.length) : setAt (flat (l.map SP)) (p * 2) [.int a, .int c] = flat ((l.set p ⟨a, c⟩).map SP) := by
 induction l generalizing p with
 | nil => simp at h
 | cons s r ih =>
  cases p with
  | zero => rfl
  | succ p =>
   simp only [List.map_cons, flat, cells_agg, List.set_cons_succ]
   have := ih p (by simpa using h)
   rw [show (p + 1) * 2 = p * 2 + 1 + 1 by omega]
   simp only [List.cons_append, List.nil_append, setAt]
   rw [this]
theorem chunks_flat (l : List Sp) (pre : List AV) (k : Nat) (hk : k = l.length) : chunks true 2 (pre ++ flat (l.map SP)) pre.length k = l.map SP := by
 subst hk
 induction l generalizing pre with
 | nil => rfl
 | cons s r ih =>
  simp only [List.length_cons, chunks, List.map_cons, flat, cells_agg]
  congr 1
  ·simp [chunk]
  ·have := ih (pre ++ [.int s.lo, .int s.hi])
   simp only [List.append_assoc, List.length_append, List.length_cons, List.length_nil] at this
   exact this
theorem chunks_flat0 (l : List Sp) (k : Nat) (hk : k = l.length) : chunks true 2 (flat (l.map SP)) 0 k = l.map SP := chunks_flat l [] k hk
theorem map_tidy_flat (l : List Sp) (hp : HpL) : (flat (l.map SP)).map (tidy hp) = flat (l.map SP) := by
 induction l with
 | nil => rfl
 | cons s r ih => simp only [List.map_cons, flat, cells_agg, List.map_append, List.map_nil, tidy_int, ih]
theorem map_strip_flat (l : List Sp) (hp : HpL) : (flat (l.map SP)).map (strip hp) = flat (l.map SP) := by
 induction l with
 | nil => rfl
 | cons s r ih => simp only [List.map_cons, flat, cells_agg, List.map_append, List.map_nil, strip_int, ih]
def rowsC (cords : List (List Sp)) : Nat → HpL
 | 0 => []
 | i + 1 => (K 2 i 0, ⟨flat ((cords[i]?.getD default).map SP), false⟩) :: rowsC cords i
def cellsC (cords : List (List Sp)) : Nat → List AV
 | 0 => []
 | i + 1 => cellsC cords i ++ [.gsl 2 i 0 2 (cords[i]?.getD default).length true]
def restC (cords : List (List Sp)) : Nat → HpL
 | 0 => []
 | i + 1 => (K 3 0 i, ⟨cellsC cords (i + 1), false⟩) :: rowsC cords (i + 1)
def ccC : Nat → AV
 | 0 => .sl 1 [] .full
 | i + 1 => .gsl 3 0 i 1 (i + 1) false
theorem scopes_flat (l : List Sp) (τ : AS) : scopes τ (flat (l.map SP)) = True := by
 induction l with
 | nil => rfl
 | cons s r ih => simp only [List.map_cons, flat, cells_agg, List.cons_append, List.nil_append, scopes, inS_int, ih, and_self]
theorem bids_flat (l : List Sp) : bids (flat (l.map SP)) = [] := by
 induction l with
 | nil => rfl
 | cons s r ih => simp only [List.map_cons, flat, cells_agg, List.cons_append, List.nil_append, bids, bid_int, ih]
attribute [go_sem] flat_len map_tidy_flat map_strip_flat scopes_flat bids_flat
end Go.Proofs.YtpangdaijhiohaaGreatDoor.Kn

set_option linter.unusedSimpArgs false
set_option linter.unusedVariables false
set_option linter.unnecessarySimpa false
namespace Go.Proofs.YtpangdaijhiohaaGreatDoor.Kn
open Go Go.V
def stC (base places : Int) (cords : List (List Sp)) (top : List Sp) (hp0 : HpL) (i : Nat) : AS :=
 ⟨[(1, .ptr 4001 0), (2, .ptr 4002 0), (3, .ptr 4003 0), (4, .int (i : Nat))],
  (4003, ⟨[.int base, .int places, ccC i, .gsl 1 0 0 2 top.length true], false⟩) :: (4002, ⟨[.int 0, .int 0, .sl 1 [] .full, .sl 2 [] .full], false⟩) :: (4001, ⟨[.int base, .int places, .sl 1 (cords.map SS) .sh, SS top], false⟩) ::
  (K 1 0 0, ⟨flat (top.map SP), false⟩) :: (hp0 ++ restC cords i), [], none⟩
theorem exL0 {l : List (List Sp)} (h : l.length = 0) : l = [] := List.eq_nil_of_length_eq_zero h
theorem exL1 {l : List (List Sp)} (h : l.length = 1) : ∃ l0, l = [l0] := by
 match l, h with
 | [a0], _ => exact ⟨a0, rfl⟩
theorem exL2 {l : List (List Sp)} (h : l.length = 2) : ∃ l0 l1, l = [l0, l1] := by
 match l, h with
 | [a0, a1], _ => exact ⟨a0, a1, rfl⟩
theorem exL3 {l : List (List Sp)} (h : l.length = 3) : ∃ l0 l1 l2, l = [l0, l1, l2] := by
 match l, h with
 | [a0, a1, a2], _ => exact ⟨a0, a1, a2, rfl⟩
theorem exL4 {l : List (List Sp)} (h : l.length = 4) : ∃ l0 l1 l2 l3, l = [l0, l1, l2, l3] := by
 match l, h with
 | [a0, a1, a2, a3], _ => exact ⟨a0, a1, a2, a3, rfl⟩
theorem c27 (base places : Int) (cords : List (List Sp)) (top : List Sp) (c p : Nat) (s : Sp) (hpl : 0 ≤ places ∧ places ≤ 4) (h4 : cords.length ≤ 4) (hr : ∀ l ∈ cords, (l.length : Int) = places) (ht : (top.length : Int) = places) (hc : c ≤ cords.length) (hp : (p : Int) < places) :
  Ctr Tryz.prog 27 [KB ⟨base, places, cords, top⟩, .int c, .int p, SP s] (KB (withB ⟨base, places, cords, top⟩ c p s)) := by
 have hrow : ∀ i, i < cords.length → ((cords[i]?.getD default).length : Int) = places := fun i hi => hr _ (mem_getD hi)
 refine ctr_of_wp hmix Tryz.func27 m27g rfl ?_
 unfold v27g
 simp -failIfUnchanged (disch := first|omega|(simp [wcs_len]<;>omega)|fail) only [go_sem,simprocAttr]
 refine wcall_in hmix Tryz.func77 m77g rfl ?_
 unfold v77g
 simp -failIfUnchanged (disch := first|omega|(simp [wcs_len]<;>omega)|fail) only [go_sem,simprocAttr]
 refine wp_loopX Nat (stC base places cords top [(4, ⟨[.int base, .int places, .sl 1 (cords.map SS) .sh, SS top], false⟩), (7, ⟨[.int s.lo, .int s.hi], false⟩), (8, ⟨[.int 0, .int 0, .sl 1 [] .full, .sl 2 [] .full], false⟩)]) (fun i => i ≤ cords.length) (fun i => cords.length - i) 0 (by simp) (by unfold stC restC ccC; simp -failIfUnchanged (disch := first|omega|(simp [wcs_len]<;>omega)|fail) only [go_sem,simprocAttr]; try simp) (fun i => by unfold stC; simp -failIfUnchanged (disch := first|omega|(simp [wcs_len]<;>omega)|fail) only [go_sem,simprocAttr]; try simp) ?_
 generalize hS : stC base places cords top [(4, ⟨[.int base, .int places, .sl 1 (cords.map SS) .sh, SS top], false⟩), (7, ⟨[.int s.lo, .int s.hi], false⟩), (8, ⟨[.int 0, .int 0, .sl 1 [] .full, .sl 2 [] .full], false⟩)] = S
 have hSi := fun i => congrFun hS i
 intro i hi
 have h9 : i = 0 ∨ i = 1 ∨ i = 2 ∨ i = 3 ∨ i = 4 := by omega
 rcases h9 with rfl | rfl | rfl | rfl | rfl
 ·have hs := hSi 0
  simp only [stC, restC, ccC, cellsC, rowsC, List.cons_append, List.nil_append] at hs
  rw [← hs]
  simp -failIfUnchanged (disch := first|omega|(simp [wcs_len]<;>omega)|fail) only [go_sem,simprocAttr]
  refine wcond_dec (fun h => ?_) (fun h => ?_)
  ·have hlt : 0 < cords.length := by omega
   have hr0 := hrow 0 hlt
   simp -failIfUnchanged (disch := first|omega|(simp [wcs_len]<;>omega)|fail) only [go_sem,simprocAttr]
   refine lpx_norm ⟨1, by omega, by omega, ?_⟩
   have ht := hSi 1
   simp only [stC, restC, ccC, cellsC, rowsC, List.cons_append, List.nil_append] at ht
   rw [← ht]
   simp -failIfUnchanged (disch := first|omega|(simp [wcs_len]<;>omega)|fail) only [go_sem,simprocAttr]
   try simp
  ·have hcl : cords.length = 0 := by omega
   clear hS hSi hs
   simp -failIfUnchanged (disch := first|omega|(simp [wcs_len]<;>omega)|fail) only [go_sem,simprocAttr]
   refine wcond_dec (fun h2 => ?_) (fun h2 => ?_)
   ·simp -failIfUnchanged (disch := first|omega|(simp [wcs_len]<;>omega)|fail) only [go_sem,simprocAttr]
    rw [setAt_flat _ _ _ _ (by omega)]
    refine wopsN [K 1 0 0] ?_
    simp -failIfUnchanged (disch := first|omega|(simp [wcs_len]<;>omega)|fail) only [go_sem,simprocAttr, Nat.le_refl, List.length_set]
    obtain rfl : c = 0 := by omega
    obtain rfl := exL0 hcl
    simp [-List.map_set, withB, chunks, chunk, chunks_flat0]
   ·omega
 ·have hs := hSi 1
  simp only [stC, restC, ccC, cellsC, rowsC, List.cons_append, List.nil_append] at hs
  rw [← hs]
  simp -failIfUnchanged (disch := first|omega|(simp [wcs_len]<;>omega)|fail) only [go_sem,simprocAttr]
  refine wcond_dec (fun h => ?_) (fun h => ?_)
  ·have hlt : 1 < cords.length := by omega
   have hr0 := hrow 1 hlt
   simp -failIfUnchanged (disch := first|omega|(simp [wcs_len]<;>omega)|fail) only [go_sem,simprocAttr]
   refine lpx_norm ⟨2, by omega, by omega, ?_⟩
   have ht := hSi 2
   simp only [stC, restC, ccC, cellsC, rowsC, List.cons_append, List.nil_append] at ht
   rw [← ht]
   simp -failIfUnchanged (disch := first|omega|(simp [wcs_len]<;>omega)|fail) only [go_sem,simprocAttr]
   try simp
  ·have hcl : cords.length = 1 := by omega
   clear hS hSi hs
   simp -failIfUnchanged (disch := first|omega|(simp [wcs_len]<;>omega)|fail) only [go_sem,simprocAttr]
   refine wcond_dec (fun h2 => ?_) (fun h2 => ?_)
   ·simp -failIfUnchanged (disch := first|omega|(simp [wcs_len]<;>omega)|fail) only [go_sem,simprocAttr]
    rw [setAt_flat _ _ _ _ (by omega)]
    refine wopsN [K 1 0 0, K 2 0 0, K 3 0 0] ?_
    simp -failIfUnchanged (disch := first|omega|(simp [wcs_len]<;>omega)|fail) only [go_sem,simprocAttr, Nat.le_refl, List.length_set]
    obtain rfl : c = 1 := by omega
    obtain ⟨l0, rfl⟩ := exL1 hcl
    simp [-List.map_set, withB, chunks, chunk, chunks_flat0]
   ·have hcj : c = 0 := by omega
    rcases hcj with rfl
    ·have hr0 := hrow 0 (by omega)
     simp -failIfUnchanged (disch := first|omega|(simp [wcs_len]<;>omega)|fail) only [go_sem,simprocAttr]
     rw [setAt_flat _ _ _ _ (by omega)]
     refine wopsN [K 1 0 0, K 2 0 0, K 3 0 0] ?_
     simp -failIfUnchanged (disch := first|omega|(simp [wcs_len]<;>omega)|fail) only [go_sem,simprocAttr, Nat.le_refl, List.length_set]
     obtain ⟨l0, rfl⟩ := exL1 hcl
     simp [-List.map_set, withB, chunks, chunk, chunks_flat0]
 ·have hs := hSi 2
  simp only [stC, restC, ccC, cellsC, rowsC, List.cons_append, List.nil_append] at hs
  rw [← hs]
  simp -failIfUnchanged (disch := first|omega|(simp [wcs_len]<;>omega)|fail) only [go_sem,simprocAttr]
  refine wcond_dec (fun h => ?_) (fun h => ?_)
  ·have hlt : 2 < cords.length := by omega
   have hr0 := hrow 2 hlt
   simp -failIfUnchanged (disch := first|omega|(simp [wcs_len]<;>omega)|fail) only [go_sem,simprocAttr]
   refine lpx_norm ⟨3, by omega, by omega, ?_⟩
   have ht := hSi 3
   simp only [stC, restC, ccC, cellsC, rowsC, List.cons_append, List.nil_append] at ht
   rw [← ht]
   simp -failIfUnchanged (disch := first|omega|(simp [wcs_len]<;>omega)|fail) only [go_sem,simprocAttr]
   try simp
  ·have hcl : cords.length = 2 := by omega
   clear hS hSi hs
   simp -failIfUnchanged (disch := first|omega|(simp [wcs_len]<;>omega)|fail) only [go_sem,simprocAttr]
   refine wcond_dec (fun h2 => ?_) (fun h2 => ?_)
   ·simp -failIfUnchanged (disch := first|omega|(simp [wcs_len]<;>omega)|fail) only [go_sem,simprocAttr]
    rw [setAt_flat _ _ _ _ (by omega)]
    refine wopsN [K 1 0 0, K 2 0 0, K 2 1 0, K 3 0 1] ?_
    simp -failIfUnchanged (disch := first|omega|(simp [wcs_len]<;>omega)|fail) only [go_sem,simprocAttr, Nat.le_refl, List.length_set]
    obtain rfl : c = 2 := by omega
    obtain ⟨l0, l1, rfl⟩ := exL2 hcl
    simp [-List.map_set, withB, chunks, chunk, chunks_flat0]
   ·have hcj : c = 0 ∨ c = 1 := by omega
    rcases hcj with rfl | rfl
    ·have hr0 := hrow 0 (by omega)
     simp -failIfUnchanged (disch := first|omega|(simp [wcs_len]<;>omega)|fail) only [go_sem,simprocAttr]
     rw [setAt_flat _ _ _ _ (by omega)]
     refine wopsN [K 1 0 0, K 2 0 0, K 2 1 0, K 3 0 1] ?_
     simp -failIfUnchanged (disch := first|omega|(simp [wcs_len]<;>omega)|fail) only [go_sem,simprocAttr, Nat.le_refl, List.length_set]
     obtain ⟨l0, l1, rfl⟩ := exL2 hcl
     simp [-List.map_set, withB, chunks, chunk, chunks_flat0]
    ·have hr0 := hrow 1 (by omega)
     simp -failIfUnchanged (disch := first|omega|(simp [wcs_len]<;>omega)|fail) only [go_sem,simprocAttr]
     rw [setAt_flat _ _ _ _ (by omega)]
     refine wopsN [K 1 0 0, K 2 0 0, K 2 1 0, K 3 0 1] ?_
     simp -failIfUnchanged (disch := first|omega|(simp [wcs_len]<;>omega)|fail) only [go_sem,simprocAttr, Nat.le_refl, List.length_set]
     obtain ⟨l0, l1, rfl⟩ := exL2 hcl
     simp [-List.map_set, withB, chunks, chunk, chunks_flat0]
 ·have hs := hSi 3
  simp only [stC, restC, ccC, cellsC, rowsC, List.cons_append, List.nil_append] at hs
  rw [← hs]
  simp -failIfUnchanged (disch := first|omega|(simp [wcs_len]<;>omega)|fail) only [go_sem,simprocAttr]
  refine wcond_dec (fun h => ?_) (fun h => ?_)
  ·have hlt : 3 < cords.length := by omega
   have hr0 := hrow 3 hlt
   simp -failIfUnchanged (disch := first|omega|(simp [wcs_len]<;>omega)|fail) only [go_sem,simprocAttr]
   refine lpx_norm ⟨4, by omega, by omega, ?_⟩
   have ht := hSi 4
   simp only [stC, restC, ccC, cellsC, rowsC, List.cons_append, List.nil_append] at ht
   rw [← ht]
   simp -failIfUnchanged (disch := first|omega|(simp [wcs_len]<;>omega)|fail) only [go_sem,simprocAttr]
   try simp
  ·have hcl : cords.length = 3 := by omega
   clear hS hSi hs
   simp -failIfUnchanged (disch := first|omega|(simp [wcs_len]<;>omega)|fail) only [go_sem,simprocAttr]
   refine wcond_dec (fun h2 => ?_) (fun h2 => ?_)
   ·simp -failIfUnchanged (disch := first|omega|(simp [wcs_len]<;>omega)|fail) only [go_sem,simprocAttr]
    rw [setAt_flat _ _ _ _ (by omega)]
    refine wopsN [K 1 0 0, K 2 0 0, K 2 1 0, K 2 2 0, K 3 0 2] ?_
    simp -failIfUnchanged (disch := first|omega|(simp [wcs_len]<;>omega)|fail) only [go_sem,simprocAttr, Nat.le_refl, List.length_set]
    obtain rfl : c = 3 := by omega
    obtain ⟨l0, l1, l2, rfl⟩ := exL3 hcl
    simp [-List.map_set, withB, chunks, chunk, chunks_flat0]
   ·have hcj : c = 0 ∨ c = 1 ∨ c = 2 := by omega
    rcases hcj with rfl | rfl | rfl
    ·have hr0 := hrow 0 (by omega)
     simp -failIfUnchanged (disch := first|omega|(simp [wcs_len]<;>omega)|fail) only [go_sem,simprocAttr]
     rw [setAt_flat _ _ _ _ (by omega)]
     refine wopsN [K 1 0 0, K 2 0 0, K 2 1 0, K 2 2 0, K 3 0 2] ?_
     simp -failIfUnchanged (disch := first|omega|(simp [wcs_len]<;>omega)|fail) only [go_sem,simprocAttr, Nat.le_refl, List.length_set]
     obtain ⟨l0, l1, l2, rfl⟩ := exL3 hcl
     simp [-List.map_set, withB, chunks, chunk, chunks_flat0]
    ·have hr0 := hrow 1 (by omega)
     simp -failIfUnchanged (disch := first|omega|(simp [wcs_len]<;>omega)|fail) only [go_sem,simprocAttr]
     rw [setAt_flat _ _ _ _ (by omega)]
     refine wopsN [K 1 0 0, K 2 0 0, K 2 1 0, K 2 2 0, K 3 0 2] ?_
     simp -failIfUnchanged (disch := first|omega|(simp [wcs_len]<;>omega)|fail) only [go_sem,simprocAttr, Nat.le_refl, List.length_set]
     obtain ⟨l0, l1, l2, rfl⟩ := exL3 hcl
     simp [-List.map_set, withB, chunks, chunk, chunks_flat0]
    ·have hr0 := hrow 2 (by omega)
     simp -failIfUnchanged (disch := first|omega|(simp [wcs_len]<;>omega)|fail) only [go_sem,simprocAttr]
     rw [setAt_flat _ _ _ _ (by omega)]
     refine wopsN [K 1 0 0, K 2 0 0, K 2 1 0, K 2 2 0, K 3 0 2] ?_
     simp -failIfUnchanged (disch := first|omega|(simp [wcs_len]<;>omega)|fail) only [go_sem,simprocAttr, Nat.le_refl, List.length_set]
     obtain ⟨l0, l1, l2, rfl⟩ := exL3 hcl
     simp [-List.map_set, withB, chunks, chunk, chunks_flat0]
 ·have hs := hSi 4
  simp only [stC, restC, ccC, cellsC, rowsC, List.cons_append, List.nil_append] at hs
  rw [← hs]
  simp -failIfUnchanged (disch := first|omega|(simp [wcs_len]<;>omega)|fail) only [go_sem,simprocAttr]
  refine wcond_dec (fun h => ?_) (fun h => ?_)
  ·omega
  ·have hcl : cords.length = 4 := by omega
   clear hS hSi hs
   simp -failIfUnchanged (disch := first|omega|(simp [wcs_len]<;>omega)|fail) only [go_sem,simprocAttr]
   refine wcond_dec (fun h2 => ?_) (fun h2 => ?_)
   ·simp -failIfUnchanged (disch := first|omega|(simp [wcs_len]<;>omega)|fail) only [go_sem,simprocAttr]
    rw [setAt_flat _ _ _ _ (by omega)]
    refine wopsN [K 1 0 0, K 2 0 0, K 2 1 0, K 2 2 0, K 2 3 0, K 3 0 3] ?_
    simp -failIfUnchanged (disch := first|omega|(simp [wcs_len]<;>omega)|fail) only [go_sem,simprocAttr, Nat.le_refl, List.length_set]
    obtain rfl : c = 4 := by omega
    obtain ⟨l0, l1, l2, l3, rfl⟩ := exL4 hcl
    simp [-List.map_set, withB, chunks, chunk, chunks_flat0]
   ·have hcj : c = 0 ∨ c = 1 ∨ c = 2 ∨ c = 3 := by omega
    rcases hcj with rfl | rfl | rfl | rfl
    ·have hr0 := hrow 0 (by omega)
     simp -failIfUnchanged (disch := first|omega|(simp [wcs_len]<;>omega)|fail) only [go_sem,simprocAttr]
     rw [setAt_flat _ _ _ _ (by omega)]
     refine wopsN [K 1 0 0, K 2 0 0, K 2 1 0, K 2 2 0, K 2 3 0, K 3 0 3] ?_
     simp -failIfUnchanged (disch := first|omega|(simp [wcs_len]<;>omega)|fail) only [go_sem,simprocAttr, Nat.le_refl, List.length_set]
     obtain ⟨l0, l1, l2, l3, rfl⟩ := exL4 hcl
     simp [-List.map_set, withB, chunks, chunk, chunks_flat0]
    ·have hr0 := hrow 1 (by omega)
     simp -failIfUnchanged (disch := first|omega|(simp [wcs_len]<;>omega)|fail) only [go_sem,simprocAttr]
     rw [setAt_flat _ _ _ _ (by omega)]
     refine wopsN [K 1 0 0, K 2 0 0, K 2 1 0, K 2 2 0, K 2 3 0, K 3 0 3] ?_
     simp -failIfUnchanged (disch := first|omega|(simp [wcs_len]<;>omega)|fail) only [go_sem,simprocAttr, Nat.le_refl, List.length_set]
     obtain ⟨l0, l1, l2, l3, rfl⟩ := exL4 hcl
     simp [-List.map_set, withB, chunks, chunk, chunks_flat0]
    ·have hr0 := hrow 2 (by omega)
     simp -failIfUnchanged (disch := first|omega|(simp [wcs_len]<;>omega)|fail) only [go_sem,simprocAttr]
     rw [setAt_flat _ _ _ _ (by omega)]
     refine wopsN [K 1 0 0, K 2 0 0, K 2 1 0, K 2 2 0, K 2 3 0, K 3 0 3] ?_
     simp -failIfUnchanged (disch := first|omega|(simp [wcs_len]<;>omega)|fail) only [go_sem,simprocAttr, Nat.le_refl, List.length_set]
     obtain ⟨l0, l1, l2, l3, rfl⟩ := exL4 hcl
     simp [-List.map_set, withB, chunks, chunk, chunks_flat0]
    ·have hr0 := hrow 3 (by omega)
     simp -failIfUnchanged (disch := first|omega|(simp [wcs_len]<;>omega)|fail) only [go_sem,simprocAttr]
     rw [setAt_flat _ _ _ _ (by omega)]
     refine wopsN [K 1 0 0, K 2 0 0, K 2 1 0, K 2 2 0, K 2 3 0, K 3 0 3] ?_
     simp -failIfUnchanged (disch := first|omega|(simp [wcs_len]<;>omega)|fail) only [go_sem,simprocAttr, Nat.le_refl, List.length_set]
     obtain ⟨l0, l1, l2, l3, rfl⟩ := exL4 hcl
     simp [-List.map_set, withB, chunks, chunk, chunks_flat0]
end Go.Proofs.YtpangdaijhiohaaGreatDoor.Kn

set_option linter.unusedSimpArgs false
set_option linter.unusedVariables false
set_option linter.unnecessarySimpa false
namespace Go.Proofs.YtpangdaijhiohaaGreatDoor.Kn
open Go Go.V
theorem check_of_val {b : Bk} (hv : Val b) : checkB b = true := by
 obtain ⟨h1, h2, h3, h4, h5, h6⟩ := hv
 have key : ∀ l : List Sp, (l.length : Int) = b.places → (∀ s ∈ l, 0 ≤ s.lo ∧ s.lo ≤ s.hi ∧ s.hi < b.base) → isCordB b l = true := by
  intro l hl hs
  simp only [isCordB, hl, decide_true, Bool.true_and, Bool.not_eq_true', List.any_eq_false]
  intro s hs'
  have := hs s hs'
  simp only [badS, within, Bool.or_eq_true, Bool.not_eq_true', decide_eq_false_iff_not, decide_eq_true_eq, not_or, Decidable.not_not]
  omega
 simp only [checkB, within, Bool.and_eq_true, decide_eq_true_eq, Bool.not_eq_true', List.any_eq_false]
 refine ⟨h1, h2, by omega, fun l hl => ?_, key b.top h5 h6⟩
 simp [key l (h4 l hl).1 (h4 l hl).2]
theorem c27r (b : Bk) (hv : Val b) (c p : Nat) (s : Sp) (hc : c ≤ b.cords.length) (hp : p < b.places.toNat) : Ctr Tryz.prog 27 [KB b, .int c, .int p, SP s] (KB (withB b c p s)) := by
 obtain ⟨base, places, cords, top⟩ := b
 have h2 := hv.hp
 exact c27 base places cords top c p s (by dsimp only at h2; omega) hv.hc (fun l hl => (hv.cord l hl).1) hv.top.1 hc (by dsimp only at hp h2 ⊢; omega)
theorem many_ok {b : Bk} (hc0 : checkB b = true) : manyR2 b = (((allNs b).length : Int), 0) := by
 unfold manyR2
 rw [hc0, if_pos rfl]
theorem c22k (b : Bk) (hs : Small b) (hc0 : checkB b = true) : Ctr Tryz.prog 22 [KB b] (.tup [.int ((allNs b).length : Nat), .int 0]) := by
 have := c22r b hs
 rw [many_ok hc0] at this
 exact this
theorem c36k (b : Bk) (hs : Small b) (hc0 : checkB b = true) : Ctr Tryz.prog 36 [KB b] (.tup [.int (leastB b), .int 0]) := by
 have := c36 b hs
 rw [hc0, if_pos rfl, least_k (val_of_check hc0)] at this
 exact this
theorem least_pos {b : Bk} (hv : Val b) : 0 ≤ leastB b := by
 obtain ⟨_, l, _, h2⟩ := least_spec hv
 have := (costN_bd hv l).1
 omega
end Go.Proofs.YtpangdaijhiohaaGreatDoor.Kn

set_option linter.unusedSimpArgs false
set_option linter.unusedVariables false
set_option linter.unnecessarySimpa false
namespace Go.Proofs.YtpangdaijhiohaaGreatDoor.Kn
open Go Go.V
end Go.Proofs.YtpangdaijhiohaaGreatDoor.Kn

set_option linter.unusedSimpArgs false
set_option linter.unusedVariables false
set_option linter.unnecessarySimpa false
namespace Go.Proofs.YtpangdaijhiohaaGreatDoor.Kn
open Go Go.V
theorem blL_rise (b : Bk) (k : Nat) : (∀ x ∈ blL b k, 0 ≤ x ∧ x < k) ∧ (∀ i, i + 1 < (blL b k).length → (blL b k)[i]?.getD default < (blL b k)[i + 1]?.getD default) ∧ (blL b k).length ≤ k := by
 have hp : List.Pairwise (· < ·) (blL b k) := by
  unfold blL
  rw [List.pairwise_map]
  refine List.Pairwise.imp ?_ (List.Pairwise.filter _ List.pairwise_lt_range)
  intro a c h
  omega
 refine ⟨fun x hx => ?_, fun i hi => ?_, ?_⟩
 ·unfold blL at hx
  obtain ⟨n, hn, rfl⟩ := List.mem_map.1 hx
  have := List.mem_range.1 (List.mem_filter.1 hn).1
  omega
 ·have := List.pairwise_iff_getElem.1 hp i (i + 1) (by omega) hi (by omega)
  rw [List.getElem?_eq_getElem (by omega), List.getElem?_eq_getElem hi]
  exact this
 ·unfold blL
  rw [List.length_map]
  exact Nat.le_trans (List.length_filter_le _ _) (by simp)
end Go.Proofs.YtpangdaijhiohaaGreatDoor.Kn

set_option linter.unusedSimpArgs false
set_option linter.unusedVariables false
set_option linter.unnecessarySimpa false
namespace Go.Proofs.YtpangdaijhiohaaGreatDoor.To
open Go Go.V Mo Bu Bd
end Go.Proofs.YtpangdaijhiohaaGreatDoor.To

set_option linter.unusedSimpArgs false
set_option linter.unusedVariables false
set_option linter.unnecessarySimpa false
namespace Go.Proofs.YtpangdaijhiohaaGreatDoor.To
open Go Go.V Mo Bu Bd
theorem sure_is {b : Kn.Bk} (hc0 : Kn.checkB b = true) (hpos : 0 < (Kn.allNs b).length) {e : Nat} (he : e ≤ b.cords.length) :
  ∃ u, Kn.sureR b e = (u, 0) ∧ (∃ l ∈ Kn.allNs b, u.lo = ((l[e]?.getD default : Nat) : Int)) ∧ (∃ l ∈ Kn.allNs b, u.hi = ((l[e]?.getD default : Nat) : Int)) ∧ ∀ l ∈ Kn.allNs b, u.lo ≤ ((l[e]?.getD default : Nat) : Int) ∧ ((l[e]?.getD default : Nat) : Int) ≤ u.hi := by
 have hw : Kn.within (e : Int) 0 b.cords.length = true := by simp [Kn.within]; omega
 have hcs : Kn.colS b e (Kn.allNs b).length = (Kn.allNs b).map fun l => ((l[e]?.getD default : Nat) : Int) := by
  unfold Kn.colS
  rw [List.take_length]
 obtain ⟨h1, h2, h3⟩ := Kn.spanL_map (fun l : List Nat => ((l[e]?.getD default : Nat) : Int)) hpos
 refine ⟨Kn.spanL ((Kn.allNs b).map fun l => ((l[e]?.getD default : Nat) : Int)) (Kn.allNs b).length, ?_, h1, h2, h3⟩
 unfold Kn.sureR Kn.ansS
 rw [hc0, hw, if_pos rfl, if_pos rfl, if_neg (by omega), Int.toNat_natCast, hcs]
end Go.Proofs.YtpangdaijhiohaaGreatDoor.To

set_option linter.unusedSimpArgs false
set_option linter.unusedVariables false
set_option linter.unnecessarySimpa false
namespace Go.Proofs.YtpangdaijhiohaaGreatDoor.To
open Go Go.V Mo Bu Bd
theorem has_M4 : gauR bxM 4 = .tup [IS [3, 1, 0], .int 0] := by kernel_rfl
theorem sure_K0 : Kn.sureR Kn.bkK 0 = (⟨12, 13⟩, 0) := by
 obtain ⟨u, h1, ⟨l1, h2, h3⟩, ⟨l2, h4, h5⟩, h6⟩ := sure_is Kn.ckK (by rw [Kn.allK]; decide) (e := 0) (by decide)
 rw [Kn.allK] at h2 h4 h6
 have a := h6 [12, 15, 27] (by simp)
 have b := h6 [13, 15, 28] (by simp)
 simp only [List.mem_cons, List.not_mem_nil, or_false] at h2 h4
 have h7 : u = ⟨12, 13⟩ := by
  obtain ⟨lo, hi⟩ := u
  simp only [List.getElem?_cons_zero, Option.getD_some] at a b
  congr
  ·rcases h2 with rfl | rfl
   ·simpa using h3
   ·simp at h3; omega
  ·rcases h4 with rfl | rfl
   ·simp at h5; omega
   ·simpa using h5
 rw [← h7]
 exact h1
theorem c21 : Ctr Tryz.prog 21 [] (.bool true) := by
 refine ctr_of_wp hmix Tryz.func21 m21 rfl ?_
 unfold v21
 simp -failIfUnchanged (disch := first|omega|(simp<;>omega)|fail) only [go_sem,simprocAttr]
 refine wcall c69 ?_
 simp -failIfUnchanged (disch := first|omega|(simp<;>omega)|fail) only [go_sem,simprocAttr]
 refine wcall c70 ?_
 simp -failIfUnchanged (disch := first|omega|(simp<;>omega)|fail) only [go_sem,simprocAttr]
 refine wcall Kn.c44 ?_
 simp -failIfUnchanged (disch := first|omega|(simp<;>omega)|fail) only [go_sem,simprocAttr]
 refine wcall (c24 exB chk_B) ?_
 rw [lks_B]
 simp -failIfUnchanged (disch := first|omega|(simp<;>omega)|fail) only [go_sem,simprocAttr]
 refine wcall (c31 bxM 4) ?_
 rw [has_M4]
 simp -failIfUnchanged (disch := first|omega|(simp<;>omega)|fail) only [go_sem,simprocAttr]
 refine wcall (Kn.c16r Kn.bkK Kn.smK 0) ?_
 rw [sure_K0]
 simp -failIfUnchanged (disch := first|omega|(simp<;>omega)|fail) only [go_sem,simprocAttr]
 refine wcall (Mo.c47 [2, 2, 1] [2, 2, 1] (by simp)) ?_
 simp -failIfUnchanged (disch := first|omega|(simp<;>omega)|fail) only [go_sem,simprocAttr]
 refine wcall (Mo.c47 [3, 1, 0] [3, 1, 0] (by simp)) ?_
 simp -failIfUnchanged (disch := first|omega|(simp<;>omega)|fail) only [go_sem,simprocAttr]
 try simp
end Go.Proofs.YtpangdaijhiohaaGreatDoor.To

set_option linter.unusedSimpArgs false
set_option linter.unusedVariables false
set_option linter.unnecessarySimpa false
namespace Go.Proofs.YtpangdaijhiohaaGreatDoor.To
open Go Go.V Mo Bu Bd
end Go.Proofs.YtpangdaijhiohaaGreatDoor.To

set_option linter.unusedSimpArgs false
set_option linter.unusedVariables false
set_option linter.unnecessarySimpa false
namespace Go.Proofs.YtpangdaijhiohaaGreatDoor.Bd
open Go Go.V Mo Bu Go.ChangeShapes Go.WideShapes Go.ChangeAt Go.RowKit
theorem gNone : Tryz.prog.globalNamed "steening/buckets.none" = some 0 := by kernel_rfl
theorem tNone : (Tryz.prog.globals[0]?).map (·.type) = some 176 := by kernel_rfl
abbrev laid1 : List (String × DataW Unit) := [("steening/buckets.none", Rows.laid_steening_buckets_none)]
theorem of_laid {W : World} (h : laidMetH Tryz.prog laid1 W) : W.cell? ⟨0, 0, none⟩ = some (.int .i64 (-1)) ∧ W.cell? ⟨0, 1, none⟩ = some (.int .i64 (-1)) ∧ W.cell? ⟨0, 2, none⟩ = some (.int .i64 0) := by
 rw [MakeChecks.laidMetH_plain _ _ _ (by kernel_rfl)] at h
 obtain ⟨ps, ⟨g0, t0, cs0, f0, p0, q0, hg0, ht0, hv0, hd0, rest⟩, rest2⟩ := h
 obtain rfl := Option.some.inj (gNone.symm.trans hg0)
 obtain rfl := Option.some.inj (tNone.symm.trans ht0)
 obtain ⟨y0, y1, y2, n, hx, hlen, k0, k1, k2⟩ := Go.Deep.trod_struct3 Tryz.underlying176 hd0
 obtain ⟨m0, c0, x0, _⟩ := DataW.trod_int Tryz.underlying3 k0
 obtain ⟨m1, c1, x1, _⟩ := DataW.trod_int Tryz.underlying3 k1
 obtain ⟨m2, c2, x2, _⟩ := DataW.trod_int Tryz.underlying3 k2
 subst x0 x1 x2
 have c3 : Tryz.prog.cellsOf 3 = 1 := by kernel_rfl
 have c176 : Tryz.prog.cellsOf 176 = 3 := by kernel_rfl
 rw [c176] at hlen
 have h0 := World.var?_cell hg0 hv0 0
 have h1 := World.var?_cell hg0 hv0 1
 have h2 := World.var?_cell hg0 hv0 2
 obtain ⟨l⟩ := cs0
 have hl3 : l.length = 3 := hlen
 have hx' : (Rows.laid_steening_buckets_none : DataW Unit) = .agg [.lit (.int .i64 m0), .lit (.int .i64 m1), .lit (.int .i64 m2)] := (Prod.mk.inj hx).1
 have d0 : List.take (Tryz.prog.cellsOf 3) (List.drop 0 l) = [.int .i64 m0] := c0
 have d1 : List.take (Tryz.prog.cellsOf 3) (List.drop 1 l) = [.int .i64 m1] := c1
 have d2 : List.take (Tryz.prog.cellsOf 3) (List.drop 2 l) = [.int .i64 m2] := c2
 rw [c3] at d0 d1 d2
 clear c0 c1 c2 k0 k1 k2 hx hd0 hv0 hg0 ht0 rest rest2 c176 c3 hlen
 obtain ⟨a, b, c, rfl⟩ : ∃ a b c, l = [a, b, c] := by
  match l, hl3 with
  | [a, b, c], _ => exact ⟨a, b, c, rfl⟩
 have ea : a = .int .i64 m0 := by simpa using d0
 have eb : b = .int .i64 m1 := by simpa using d1
 have ec : c = .int .i64 m2 := by simpa using d2
 subst ea eb ec
 unfold Rows.laid_steening_buckets_none at hx'
 simp only [DataW.agg.injEq, List.cons.injEq, DataW.lit.injEq, Lit.int.injEq, true_and, and_true] at hx'
 obtain ⟨rfl, rfl, rfl⟩ := hx'
 exact ⟨h0, h1, h2⟩
theorem gf_of {W : World} (h : laidMetH Tryz.prog laid1 W) : GF (CAll W) W := by
 obtain ⟨h0, h1, h2⟩ := of_laid h
 intro x hx
 have : x = (0, 0, -1) ∨ x = (0, 1, -1) ∨ x = (0, 2, 0) := by simpa [GL] using hx
 rcases this with rfl | rfl | rfl
 ·exact ⟨World.block_lt_of_cell? W _ h0, h0⟩
 ·exact ⟨World.block_lt_of_cell? W _ h1, h1⟩
 ·exact ⟨World.block_lt_of_cell? W _ h2, h2⟩
end Go.Proofs.YtpangdaijhiohaaGreatDoor.Bd
namespace Go.Proofs.YtpangdaijhiohaaGreatDoor.To
open Go Go.V
end Go.Proofs.YtpangdaijhiohaaGreatDoor.To

set_option linter.unusedSimpArgs false
set_option linter.unusedVariables false
set_option linter.unnecessarySimpa false
namespace Go.Proofs.YtpangdaijhiohaaGreatDoor.Kn
open Go Go.V
abbrev dd (d : Int) : Sp := ⟨d, d⟩
theorem fits_dd {l ds : List Int} (h : ds.length = l.length) : fitsL (l.map dd) ds = true ↔ ds = l := by
 unfold fitsL
 rw [List.all_eq_true]
 constructor
 ·intro hw
  apply List.ext_getElem h
  intro i h1 h2
  have := hw i (by simpa using h2)
  simp only [List.getElem?_map, List.getElem?_eq_getElem h1, List.getElem?_eq_getElem h2, Option.map_some, Option.getD_some, within, Bool.and_eq_true, decide_eq_true_eq] at this
  omega
 ·rintro rfl i hi
  have hi : i < ds.length := by simpa using hi
  simp only [List.getElem?_map, List.getElem?_eq_getElem hi, Option.map_some, Option.getD_some, within, Bool.and_eq_true, decide_eq_true_eq]
  omega
theorem filter_one {p : Nat → Bool} {N x : Nat} (hx : x < N) (hp : p x = true) (h : ∀ y, y < N → p y = true → y = x) : (List.range N).filter p = [x] := by
 induction N with
 | zero => omega
 | succ N ih =>
  rw [List.range_succ, List.filter_append]
  by_cases e : x = N
  ·subst e
   have h0 : (List.range x).filter p = [] := by
    rw [List.filter_eq_nil_iff]
    intro y hy hy2
    have hy := List.mem_range.1 hy
    have := h y (by omega) hy2
    omega
   rw [h0]
   simp [hp]
  ·rw [ih (by omega) fun y hy => h y (by omega)]
   have : p N = false := by
    cases hN : p N with
    | false => rfl
    | true => have := h N (by omega) hN; omega
   simp [this]
theorem sums_one {q : Bk} {ns : List Nat} (hf : ∀ j, j < q.cords.length → (List.range (allN q)).filter (isN q j false) = [ns[j]?.getD default]) (hl : q.cords.length ≤ ns.length) (hS : (ns.take q.cords.length).sum < allN q) :
  ∀ (k j : Nat), j + k = q.cords.length → sumsN q false k (ns.take j) = if fitsL q.top (tieN q.base.toNat q.places.toNat (ns.take q.cords.length).sum) then [ns.take q.cords.length ++ [(ns.take q.cords.length).sum]] else []
 | 0, j, hj => by
  obtain rfl : j = q.cords.length := by omega
  unfold sumsN
  simp only [hS, decide_true, Bool.true_and, Bool.false_or]
 | k + 1, j, hj => by
  unfold sumsN
  have hlen : (ns.take j).length = j := by rw [List.length_take]; omega
  rw [hlen, hf j (by omega)]
  simp only [List.flatMap_cons, List.flatMap_nil, List.append_nil]
  have : ns.take j ++ [ns[j]?.getD default] = ns.take (j + 1) := by
   rw [List.take_add_one, List.getElem?_eq_getElem (by omega)]
   rfl
  rw [this]
  exact sums_one hf hl hS k (j + 1) (by omega)
theorem small_val {b : Bk} (hv : Val b) : Small b := by
 have h1 := hv.hc
 have h2 := hv.hp
 have h3 := hv.top.1
 exact ⟨by omega, by omega, fun x hx => by have := (hv.cord x hx).1; omega⟩
structure Tg (B : Nat) (ns : List Nat) (b : Bk) : Prop where
 base : b.base = B
 places : b.places = 2
 len : ns.length = b.cords.length + 1
 cord : ∀ e, e ≤ b.cords.length → cordAt b e = (tieN B 2 (ns[e]?.getD default)).map dd
 hB : 7 ≤ B ∧ B ≤ 10
 hc : b.cords.length ≤ 4
 sm : ∀ e, e ≤ b.cords.length → ns[e]?.getD default < B ^ 2
 sum : (ns.take b.cords.length).sum = ns[b.cords.length]?.getD default
theorem tieN2 (B n : Nat) : tieN B 2 n = [((n / B % B : Nat) : Int), ((n % B : Nat) : Int)] := rfl
theorem Tg.allN {B : Nat} {ns : List Nat} {b : Bk} (h : Tg B ns b) : allN b = B ^ 2 := by
 show b.base.toNat ^ b.places.toNat = B ^ 2
 rw [h.base, h.places]
 rfl
theorem Tg.val {B : Nat} {ns : List Nat} {b : Bk} (h : Tg B ns b) : Val b := by
 have hB := h.hB
 have hb := h.base
 have hp := h.places
 have key : ∀ e, e ≤ b.cords.length → ((cordAt b e).length : Int) = b.places ∧ ∀ s ∈ cordAt b e, 0 ≤ s.lo ∧ s.lo ≤ s.hi ∧ s.hi < b.base := by
  intro e he
  rw [h.cord e he, hp, hb]
  refine ⟨by simp [tieN_len], fun s hs => ?_⟩
  obtain ⟨d, hd, rfl⟩ := List.mem_map.1 hs
  have := tie_dig (show 2 ≤ B by omega) _ _ d hd
  dsimp only
  omega
 refine ⟨by omega, by omega, h.hc, fun l hl => ?_, ?_, ?_⟩
 ·obtain ⟨i, hi, rfl⟩ := List.getElem_of_mem hl
  have := key i (by omega)
  have e : cordAt b i = b.cords[i] := by
   unfold cordAt
   rw [if_neg (by omega), List.getElem?_eq_getElem hi]
   rfl
  rwa [e] at this
 ·have := key b.cords.length (Nat.le_refl _)
  unfold cordAt at this
  rw [if_pos rfl] at this
  exact this.1
 ·have := key b.cords.length (Nat.le_refl _)
  unfold cordAt at this
  rw [if_pos rfl] at this
  exact this.2
theorem Tg.nums {B : Nat} {ns : List Nat} {b : Bk} (h : Tg B ns b) {e : Nat} (he : e ≤ b.cords.length) : (List.range (Kn.allN b)).filter (isN b e false) = [ns[e]?.getD default] := by
 have hB := h.hB
 have hb : b.base.toNat = B := by rw [h.base]; rfl
 have hp : b.places.toNat = 2 := by rw [h.places]; rfl
 rw [h.allN]
 have hi : ∀ n, n < B ^ 2 → (isN b e false n = true ↔ n = ns[e]?.getD default) := by
  intro n hn
  unfold isN
  rw [hb, hp, h.cord e he, Bool.false_or, fits_dd (by simp [tieN_len])]
  exact ⟨fun q => tie_inj ⟨by omega, by omega⟩ (by omega) hn (h.sm e he) q, fun q => by rw [q]⟩
 exact filter_one (h.sm e he) ((hi _ (h.sm e he)).2 rfl) fun y hy h2 => (hi y hy).1 h2
theorem Tg.split {B : Nat} {ns : List Nat} {b : Bk} (h : Tg B ns b) : ns.take b.cords.length ++ [(ns.take b.cords.length).sum] = ns := by
 have hl := h.len
 rw [h.sum]
 have : ns.take (b.cords.length + 1) = ns := List.take_of_length_le (by omega)
 conv => rhs; rw [← this, List.take_add_one, List.getElem?_eq_getElem (by omega)]
 rw [List.getElem?_eq_getElem (by omega)]
 rfl
theorem Tg.top {B : Nat} {ns : List Nat} {b : Bk} (h : Tg B ns b) : b.top = (tieN B 2 (ns[b.cords.length]?.getD default)).map dd := by
 have := h.cord b.cords.length (Nat.le_refl _)
 unfold cordAt at this
 rwa [if_pos rfl] at this
theorem Tg.all {B : Nat} {ns : List Nat} {b : Bk} (h : Tg B ns b) : allNs b = [ns] := by
 have hb : b.base.toNat = B := by rw [h.base]; rfl
 have hp : b.places.toNat = 2 := by rw [h.places]; rfl
 have hl := h.len
 have := sums_one (q := b) (ns := ns) (fun j hj => h.nums (by omega)) (by omega) (by rw [h.sum, h.allN]; exact h.sm _ (Nat.le_refl _)) b.cords.length 0 (by omega)
 rw [List.take_zero] at this
 unfold allNs
 rw [this, h.split, h.sum, h.top, hb, hp, if_pos ((fits_dd (by simp [tieN_len])).2 rfl)]
theorem Tg.check {B : Nat} {ns : List Nat} {b : Bk} (h : Tg B ns b) : checkB b = true := check_of_val h.val
theorem Tg.least {B : Nat} {ns : List Nat} {b : Bk} (h : Tg B ns b) : leastB b = 0 := (least_zero h.val).2 (by rw [h.all]; exact Nat.one_pos)
theorem spanL_one (x : Int) : spanL [x] 1 = ⟨x, x⟩ := by
 have := spanL_uniq (l := [x]) (lo := x) (hi := x) (by simp) (by simp) (by simp)
 simpa using this
theorem Tg.carry {B : Nat} {ns : List Nat} {b : Bk} (h : Tg B ns b) : ∃ x : Int, carrR b 1 = (⟨x, x⟩, 0) ∧ 0 ≤ x ∧ x ≤ 4 := by
 have hB := h.hB
 have hb : b.base.toNat = B := by rw [h.base]; rfl
 refine ⟨(carN b ns 1 : Nat), ?_, by omega, ?_⟩
 ·unfold carrR ansS
  rw [h.check, if_pos rfl, if_pos (by rw [h.places]; decide), h.all, if_neg (by simp)]
  unfold crS
  rw [h.all]
  simp only [List.length_singleton, List.take_succ_cons, List.take_zero, List.map_cons, List.map_nil]
  rw [spanL_one]
  rfl
 ·have := carN_cr (b := b) (by omega) ns 1
  rw [this]
  have h2 := crT_le (B := b.base.toNat) (by omega) (b.places.toNat - 1) (ns.take b.cords.length)
  rw [List.length_take] at h2
  have := h.hc
  omega
theorem dig_of {B : Nat} {b : Bk} (hB : 7 ≤ B ∧ B ≤ 10) (h1 : b.base = B) (h2 : b.places = 2) (n : Nat) : areDig b (tieN B 2 n) = true := by
 unfold areDig
 rw [tieN_len, h2, h1, w64_id (by omega)]
 simp only [Bool.and_eq_true, decide_eq_true_eq, Bool.not_eq_true', List.any_eq_false, Bool.not_eq_true]
 refine ⟨by rfl, fun d hd => ?_⟩
 have := tie_dig (show 2 ≤ B by omega) _ _ d hd
 have hw : within d 0 ((B : Int) - 1) = true := by
  simp only [within, decide_eq_true_eq]
  omega
 rw [hw]
 simp
theorem Tg.dig {B : Nat} {ns : List Nat} {b : Bk} (h : Tg B ns b) (n : Nat) : areDig b (tieN B 2 n) = true := dig_of h.hB h.base h.places n
theorem Tg.num {B : Nat} {ns : List Nat} {b : Bk} (h : Tg B ns b) {n : Nat} (hn : n < B ^ 2) : numL b.base (tieN B 2 n) = n ∧ nmL b (tieN B 2 n) = n := by
 have hB := h.hB
 have hb : b.base.toNat = B := by rw [h.base]; rfl
 have hp : b.places.toNat = 2 := by rw [h.places]; rfl
 obtain ⟨m, h1, h2, h3⟩ := dig_tie h.val (h.dig n)
 rw [h.allN] at h2
 rw [hb, hp] at h3
 have := tie_inj ⟨by omega, by omega⟩ (by omega) h2 hn h3
 subst this
 refine ⟨h1, ?_⟩
 unfold nmL
 rw [h1]
 rfl
theorem Tg.sm' {B : Nat} {ns : List Nat} {b : Bk} (h : Tg B ns b) {n : Nat} (hn : n ∈ ns) : n < B ^ 2 := by
 obtain ⟨i, hi, rfl⟩ := List.getElem_of_mem hn
 have hl := h.len
 have := h.sm i (by omega)
 rwa [List.getElem?_eq_getElem hi] at this
theorem Tg.right {B : Nat} {ns : List Nat} {b : Bk} (h : Tg B ns b) : isRightB b (ns.map (tieN B 2)) = true := by
 have hB := h.hB
 have hl := h.len
 have hc := h.hc
 have hat : ∀ i, i ≤ b.cords.length → (ns.map (tieN B 2))[i]?.getD default = tieN B 2 (ns[i]?.getD default) := by
  intro i hi
  have : i < ns.length := by omega
  simp [this]
 have hall : ∀ l ∈ ns.map (tieN B 2), areDig b l = true := fun l hl => by
  obtain ⟨n, _, rfl⟩ := List.mem_map.1 hl
  exact h.dig n
 simp only [isRightB, isSumB, Bool.and_eq_true, decide_eq_true_eq, List.all_eq_true, List.mem_range]
 refine ⟨⟨by rw [List.length_map]; exact hl, hall, ?_⟩, fun i hi => ?_⟩
 ·have h1 := sumW_nat h.val ((ns.map (tieN B 2)).take b.cords.length) 0 (fun l hl => hall l (List.mem_of_mem_take hl)) (by rw [List.length_take, List.length_map]; omega)
  rw [hat _ (Nat.le_refl _), (h.num (h.sm _ (Nat.le_refl _))).1]
  have h2 : ((ns.map (tieN B 2)).take b.cords.length).map (nmL b) = ns.take b.cords.length := by
   rw [← List.map_take, List.map_map]
   conv => rhs; rw [← List.map_id (ns.take b.cords.length)]
   apply List.map_congr_left
   intro n hn
   exact (h.num (h.sm' (List.mem_of_mem_take hn))).2
  rw [h2, h.sum, Nat.zero_add] at h1
  exact h1
 ·rw [List.length_map, hl] at hi
  rw [hat i (by omega), h.cord i (by omega), fits_dd (by simp [tieN_len])]
theorem Tg.other {B : Nat} {ns : List Nat} {b : Bk} (h : Tg B ns b) {d : Nat} (hd : d < B) (hne : d = ns[b.cords.length]?.getD default % B + 1 ∨ d + 1 = ns[b.cords.length]?.getD default % B) :
  Val (withB b b.cords.length 1 (dd d)) ∧ leastB (withB b b.cords.length 1 (dd d)) = 1 ∧ ((b.cords.length : Nat) : Int) ∈ blL (withB b b.cords.length 1 (dd d)) (b.cords.length + 1) := by
 have hB := h.hB
 have hb : b.base.toNat = B := by rw [h.base]; rfl
 have hp : b.places.toNat = 2 := by rw [h.places]; rfl
 have hl := h.len
 have hv := h.val
 have hv' := val_with hv (c := b.cords.length) (p := 1) (s := dd d) (Nat.le_refl _) (by rw [h.base]; dsimp only [dd]; omega)
 have hln := withB_len b b.cords.length 1 (dd d)
 have hal := withB_all b b.cords.length 1 (dd d)
 have hba := withB_base b b.cords.length 1 (dd d)
 have hpl := withB_places b b.cords.length 1 (dd d)
 have hcd := fun e he => withB_cord (b := b) (c := b.cords.length) (p := 1) (s := dd d) (Nat.le_refl _) e he
 have hcw := fun l => costN_with hv (c := b.cords.length) (p := 1) (s := dd d) (Nat.le_refl _) (by omega) l
 have hfr := frNs_with b b.cords.length 1 (dd d)
 have hsw := fun e (he : e ≤ b.cords.length) q => cordSp_with hv (c := b.cords.length) (p := 1) (s := dd d) (Nat.le_refl _) (by omega) he q
 obtain ⟨q, hq⟩ : ∃ q, withB b b.cords.length 1 (dd d) = q := ⟨_, rfl⟩
 rw [hq] at hv' hln hal hba hpl hcd hcw hfr hsw ⊢
 have hdg : dgN b ns b.cords.length 1 = ns[b.cords.length]?.getD default % B := by
  unfold dgN
  rw [hb, hp]
  simp
 have hsp : cordSp b b.cords.length 1 = dd ((ns[b.cords.length]?.getD default % B : Nat) : Int) := by
  unfold cordSp
  rw [h.cord _ (Nat.le_refl _), tieN2]
  rfl
 have hmem : ns ∈ allNs b := by rw [h.all]; simp
 have hmf : ns ∈ frNs b := by rw [allNs_fr hv] at hmem; exact (List.mem_filter.1 hmem).1
 have hc0 : costN b ns = 0 := by rw [allNs_fr hv] at hmem; simpa using (List.mem_filter.1 hmem).2
 have hc1 : costN q ns = 1 := by
  have := hcw ns
  rw [hdg, hsp, hc0] at this
  unfold costL at this
  dsimp only [dd] at this
  omega
 have hnone : allNs q = [] := by
  have hf : ∀ j, j < q.cords.length → (List.range (Kn.allN q)).filter (isN q j false) = [ns[j]?.getD default] := by
   intro j hj
   rw [← h.nums (e := j) (by omega), hal]
   apply List.filter_congr
   intro n _
   unfold isN
   rw [hcd j (by omega), if_neg (by omega), hba, hpl]
  have := sums_one (q := q) (ns := ns) hf (by omega) (by rw [hln, h.sum, hal, h.allN]; exact h.sm _ (Nat.le_refl _)) q.cords.length 0 (by omega)
  rw [List.take_zero] at this
  unfold allNs
  rw [this, if_neg]
  intro hfit
  have ht : q.top = ((tieN B 2 (ns[b.cords.length]?.getD default)).map dd).set 1 (dd d) := by
   have := hcd b.cords.length (Nat.le_refl _)
   rw [if_pos rfl, h.cord _ (Nat.le_refl _)] at this
   unfold cordAt at this
   rwa [if_pos hln.symm] at this
  rw [ht, hln, h.sum, hba, hpl, hb, hp] at hfit
  unfold fitsL at hfit
  rw [List.all_eq_true] at hfit
  have := hfit 1 (by rw [tieN2]; simp)
  rw [tieN2] at this
  simp [within, dd] at this
  have hne' : d = ns[b.cords.length]?.getD 0 % B + 1 ∨ d + 1 = ns[b.cords.length]?.getD 0 % B := hne
  omega
 have hl1 : leastB q = 1 := by
  obtain ⟨h1, h2⟩ := least_spec hv'
  have h3 := h1 ns (by rw [hfr]; exact hmf)
  have h4 := least_pos hv'
  have h5 : leastB q ≠ 0 := fun e => by
   have := (least_zero hv').1 e
   rw [hnone] at this
   simp at this
  omega
 refine ⟨hv', hl1, ?_⟩
 unfold blL
 refine List.mem_map.2 ⟨b.cords.length, List.mem_filter.2 ⟨List.mem_range.2 (by omega), ?_⟩, rfl⟩
 unfold blR
 rw [List.any_eq_true]
 refine ⟨ns, ?_, ?_⟩
 ·show ns ∈ retL q (frNs q).length
  unfold retL
  rw [List.take_length]
  refine List.mem_filter.2 ⟨by rw [hfr]; exact hmf, ?_⟩
  rw [hc1, hl1]
  rfl
 ·apply decide_eq_true
  unfold kn1
  rw [hpl, hp]
  have e0 : 0 ≤ costL (cordSp q b.cords.length 0) (dgN q ns b.cords.length 0 : Nat) := costL_nonneg _ _
  have e1 : costL (cordSp q b.cords.length 1) (dgN q ns b.cords.length 1 : Nat) = 1 := by
   rw [hsw _ (Nat.le_refl _), if_pos ⟨rfl, rfl⟩, ← hq, dgN_with, hdg]
   unfold costL
   dsimp only [dd]
   omega
  show 0 < isum 2 _
  simp only [isum, List.range_succ, List.range_zero, List.nil_append, List.foldl_append, List.foldl_cons, List.foldl_nil]
  omega
end Go.Proofs.YtpangdaijhiohaaGreatDoor.Kn

set_option linter.unusedSimpArgs false
set_option linter.unusedVariables false
set_option linter.unnecessarySimpa false
namespace Go.Proofs.YtpangdaijhiohaaGreatDoor.Kn
open Go Go.V
def tn (L : List Int) : List Nat := L.map Int.toNat ++ [(Mo.sumI L).toNat]
theorem tn_len (L : List Int) : (tn L).length = L.length + 1 := by simp [tn]
theorem tn_at {L : List Int} {i : Nat} (hi : i < L.length) : (tn L)[i]?.getD default = (L[i]?.getD default).toNat := by
 unfold tn
 rw [List.getElem?_append_left (by simpa using hi)]
 simp [hi]
theorem tn_top (L : List Int) : (tn L)[L.length]?.getD default = (Mo.sumI L).toNat := by
 unfold tn
 rw [List.getElem?_append_right (by simp)]
 simp
theorem tn_sum {L : List Int} (h : ∀ x ∈ L, 0 ≤ x) : ((tn L).take L.length).sum = (Mo.sumI L).toNat := by
 have e : (tn L).take L.length = L.map Int.toNat := by
  unfold tn
  rw [List.take_append_of_le_length (by simp)]
  exact List.take_of_length_le (by simp)
 rw [e]
 clear e
 have key : ∀ L : List Int, (∀ x ∈ L, 0 ≤ x) → (((L.map Int.toNat).sum : Nat) : Int) = Mo.sumI L := by
  intro L
  induction L with
  | nil => intro _; rfl
  | cons x l ih =>
   intro h
   have h0 := h x (by simp)
   have h1 := ih fun y hy => h y (by simp [hy])
   rw [Mo.sumI_cons, ← h1]
   simp only [List.map_cons, List.sum_cons]
   omega
 have := key L h
 omega
def rdN (B : Nat) (L : List Int) : List (List Int) := (tn L).map (tieN B 2)
theorem rdN_len (B : Nat) (L : List Int) : (rdN B L).length = L.length + 1 := by simp [rdN, tn_len]
theorem rdN_at (B : Nat) {L : List Int} {i : Nat} (hi : i ≤ L.length) : (rdN B L)[i]?.getD default = tieN B 2 ((tn L)[i]?.getD default) := by
 have : i < (tn L).length := by rw [tn_len]; omega
 simp [rdN, this]
theorem rdN_succ (B : Nat) {L : List Int} {i : Nat} (hi : i ≤ L.length) : (rdN B L).take (i + 1) = (rdN B L).take i ++ [tieN B 2 ((tn L)[i]?.getD default)] := by
 have h : i < (rdN B L).length := by rw [rdN_len]; omega
 rw [List.take_add_one, List.getElem?_eq_getElem h, ← rdN_at B hi, List.getElem?_eq_getElem h]
 rfl
theorem rdN_dig (B : Nat) {L : List Int} {i p : Nat} (hi : i ≤ L.length) (hp : p < 2) : ((rdN B L)[i]?.getD default)[p]?.getD default = (((tn L)[i]?.getD default / B ^ (1 - p) % B : Nat) : Int) := by
 rw [rdN_at B hi, tieN_at B 2 _ p hp]
theorem rdN_row (B : Nat) {L : List Int} {i : Nat} (hi : i ≤ L.length) : ((rdN B L)[i]?.getD default).length = 2 := by
 rw [rdN_at B hi, tieN_len]
def bk0 (B : Nat) (n : Nat) : Bk := ⟨B, 2, List.replicate n [dd 0, dd 0], [dd 0, dd 0]⟩
def rowW (B : Nat) (x e i p : Nat) : List Sp := [if e < i ∨ (e = i ∧ 0 < p) then dd ((x / B % B : Nat) : Int) else dd 0, if e < i ∨ (e = i ∧ 1 < p) then dd ((x % B : Nat) : Int) else dd 0]
structure Tw (B : Nat) (L : List Int) (i p : Nat) (b : Bk) : Prop where
 base : b.base = B
 places : b.places = 2
 len : b.cords.length = L.length
 cord : ∀ e, e ≤ L.length → cordAt b e = rowW B ((tn L)[e]?.getD default) e i p
theorem Tw.zero (B : Nat) (L : List Int) : Tw B L 0 0 (bk0 B L.length) := by
 refine ⟨rfl, rfl, by simp [bk0], fun e he => ?_⟩
 have : rowW B ((tn L)[e]?.getD default) e 0 0 = [dd 0, dd 0] := by
  unfold rowW
  rw [if_neg (by omega), if_neg (by omega)]
 rw [this]
 unfold cordAt bk0
 simp only [List.length_replicate]
 split
 ·rfl
 ·rw [List.getElem?_replicate, if_pos (by omega)]
  rfl
theorem Tw.val {B : Nat} {L : List Int} {i p : Nat} {b : Bk} (h : Tw B L i p b) (hB : 7 ≤ B ∧ B ≤ 10) (hL : L.length ≤ 4) : Val b := by
 have hb := h.base
 have hp := h.places
 have hl := h.len
 have key : ∀ e, e ≤ b.cords.length → ((cordAt b e).length : Int) = b.places ∧ ∀ s ∈ cordAt b e, 0 ≤ s.lo ∧ s.lo ≤ s.hi ∧ s.hi < b.base := by
  intro e he
  rw [h.cord e (by omega), hp, hb]
  refine ⟨rfl, fun s hs => ?_⟩
  have h1 : ((tn L)[e]?.getD default) / B % B < B := Nat.mod_lt _ (by omega)
  have h2 : ((tn L)[e]?.getD default) % B < B := Nat.mod_lt _ (by omega)
  unfold rowW at hs
  simp only [List.mem_cons, List.not_mem_nil, or_false] at hs
  rcases hs with rfl | rfl
  ·split <;> (dsimp only [dd]; omega)
  ·split <;> (dsimp only [dd]; omega)
 refine ⟨by omega, by omega, by omega, fun l hl => ?_, ?_, ?_⟩
 ·obtain ⟨i, hi, rfl⟩ := List.getElem_of_mem hl
  have := key i (by omega)
  have e : cordAt b i = b.cords[i] := by
   unfold cordAt
   rw [if_neg (by omega), List.getElem?_eq_getElem hi]
   rfl
  rwa [e] at this
 ·have := key b.cords.length (Nat.le_refl _)
  unfold cordAt at this
  rw [if_pos rfl] at this
  exact this.1
 ·have := key b.cords.length (Nat.le_refl _)
  unfold cordAt at this
  rw [if_pos rfl] at this
  exact this.2
theorem Tw.step {B : Nat} {L : List Int} {i p : Nat} {b : Bk} (h : Tw B L i p b) (hi : i ≤ L.length) (hp : p < 2) : Tw B L i (p + 1) (withB b i p (dd (((tn L)[i]?.getD default / B ^ (1 - p) % B : Nat) : Int))) := by
 have hl := h.len
 refine ⟨by rw [withB_base]; exact h.base, by rw [withB_places]; exact h.places, by rw [withB_len]; exact h.len, fun e he => ?_⟩
 rw [withB_cord (by omega) e (by omega)]
 have hp2 : p = 0 ∨ p = 1 := by omega
 by_cases hei : e = i
 ·subst hei
  rw [if_pos rfl, h.cord e he]
  unfold rowW
  rcases hp2 with rfl | rfl
  ·rw [if_neg (by omega), if_neg (by omega), if_pos (by omega), if_neg (by omega)]
   simp
  ·rw [if_pos (by omega), if_neg (by omega), if_pos (by omega), if_pos (by omega)]
   simp
 ·rw [if_neg hei, h.cord e he]
  unfold rowW
  by_cases hlt : e < i
  ·rw [if_pos (by omega), if_pos (by omega), if_pos (by omega), if_pos (by omega)]
  ·rw [if_neg (by omega), if_neg (by omega), if_neg (by omega), if_neg (by omega)]
theorem Tw.next {B : Nat} {L : List Int} {i : Nat} {b : Bk} (h : Tw B L i 2 b) : Tw B L (i + 1) 0 b := by
 refine ⟨h.base, h.places, h.len, fun e he => ?_⟩
 rw [h.cord e he]
 unfold rowW
 by_cases hlt : e < i + 1
 ·rw [if_pos (by omega), if_pos (by omega), if_pos (by omega), if_pos (by omega)]
 ·rw [if_neg (by omega), if_neg (by omega), if_neg (by omega), if_neg (by omega)]
theorem Tw.done {B : Nat} {L : List Int} {b : Bk} (h : Tw B L (L.length + 1) 0 b) (hB : 7 ≤ B ∧ B ≤ 10) (hL : L.length ≤ 4) (h0 : ∀ x ∈ L, 0 ≤ x ∧ x ≤ 20) (hs : Mo.sumI L ≤ 40) : Tg B (tn L) b := by
 have hl := h.len
 have hsq : 49 ≤ B ^ 2 := by
  have : 7 * 7 ≤ B * B := Nat.mul_le_mul hB.1 hB.1
  rw [Nat.pow_two]
  exact this
 refine ⟨h.base, h.places, by rw [tn_len, hl], fun e he => ?_, hB, by omega, fun e he => ?_, ?_⟩
 ·rw [h.cord e (by omega), tieN2]
  unfold rowW
  rw [if_pos (by omega), if_pos (by omega)]
  rfl
 ·rw [hl] at he
  rcases Nat.lt_or_ge e L.length with q | q
  ·rw [tn_at q]
   have := h0 _ (mem_getD q)
   omega
  ·obtain rfl : e = L.length := by omega
   rw [tn_top]
   omega
 ·rw [hl, tn_sum fun x hx => (h0 x hx).1, tn_top]
end Go.Proofs.YtpangdaijhiohaaGreatDoor.Kn

set_option linter.unusedSimpArgs false
set_option linter.unusedVariables false
set_option linter.unnecessarySimpa false
namespace Go.Proofs.YtpangdaijhiohaaGreatDoor.To
open Go Go.V Mo
abbrev z2 : AV := .sl 2 [.agg [.int 0, .int 0], .agg [.int 0, .int 0]] .sh
def oC : Nat → AV
 | 0 => .sl 1 [] .full
 | i + 1 => .sl 1 (List.replicate (i + 1) z2) (.own 107)
def oT : Nat → List (Nat × Nat)
 | 0 => []
 | i + 1 => [(107, i + 1)]
theorem getT_oT (n : Nat) : getT (oT n) 13 = none := by cases n <;> rfl
theorem oC_is (B n : Nat) : ∃ m T, oC n = .sl 1 ((Kn.bk0 B n).cords.map Kn.SS) m ∧ oT n = T ∧ ((m = .full ∧ T = []) ∨ (m = .own 107 ∧ ∃ k, T = [(107, k)])) := by
 cases n with
 | zero => exact ⟨_, _, rfl, rfl, .inl ⟨rfl, rfl⟩⟩
 | succ n => exact ⟨.own 107, _, by simp [oC, Kn.bk0], rfl, .inr ⟨rfl, _, rfl⟩⟩
set_option maxHeartbeats 3200000 in
theorem c5 (b : Bx) (f base : Int) : Ctr Tryz.prog 5 [MB b, .int f, .int base] (.bool true) := by
 refine ctr_of_wp hmix Tryz.func5 m5t rfl ?_
 unfold v5t
 simp -failIfUnchanged (disch := first|omega|(simp<;>omega)|fail) only [go_sem,simprocAttr]
 refine wcall (c28 b) ?_
 cases hfb : Mo.farB b with
 | true =>
  simp -failIfUnchanged (disch := first|omega|(simp<;>omega)|fail) only [go_sem,simprocAttr]
  refine wcall c21 ?_
  simp -failIfUnchanged (disch := first|omega|(simp<;>omega)|fail) only [go_sem,simprocAttr]
  try simp
 | false =>
  simp -failIfUnchanged (disch := first|omega|(simp<;>omega)|fail) only [go_sem,simprocAttr]
  refine wcall (c29 b) ?_
  unfold errM
  cases hcb : checkB b with
  | false =>
   rw [if_neg (by simp)]
   simp -failIfUnchanged (disch := first|omega|(simp<;>omega)|fail) only [go_sem,simprocAttr]
   refine wcall c21 ?_
   simp -failIfUnchanged (disch := first|omega|(simp<;>omega)|fail) only [go_sem,simprocAttr]
   try simp
  | true =>
   rw [if_pos rfl]
   have hb := val_of_check hcb
   have n5 := hb.n5
   simp -failIfUnchanged (disch := first|omega|(simp<;>omega)|fail) only [go_sem,simprocAttr]
   refine WGd_bool (fun hl => ?_) (fun hl => ?_)
   ·simp -failIfUnchanged (disch := first|omega|(simp<;>omega)|fail) only [go_sem,simprocAttr, hl]
    have hl' : b.sh.length ≤ 4 := by
     have := of_decide_eq_false hl
     omega
    refine wcall (c30 f) ?_
    cases hf : Mo.within f 0 40 with
    | false =>
     simp -failIfUnchanged (disch := first|omega|(simp<;>omega)|fail) only [go_sem,simprocAttr]
     refine wcall c21 ?_
     simp -failIfUnchanged (disch := first|omega|(simp<;>omega)|fail) only [go_sem,simprocAttr]
     try simp
    | true =>
     have hf' := Mo.within_iff.1 hf
     obtain ⟨F, rfl⟩ : ∃ n : Nat, f = n := ⟨f.toNat, by omega⟩
     simp -failIfUnchanged (disch := first|omega|(simp<;>omega)|fail) only [go_sem,simprocAttr]
     refine wcall (Mo.c8 base 7 10) ?_
     cases hbs : Mo.within base 7 10 with
     | false =>
      simp -failIfUnchanged (disch := first|omega|(simp<;>omega)|fail) only [go_sem,simprocAttr]
      refine wcall c21 ?_
      simp -failIfUnchanged (disch := first|omega|(simp<;>omega)|fail) only [go_sem,simprocAttr]
      try simp
     | true =>
      have hbs' := Mo.within_iff.1 hbs
      obtain ⟨B, rfl⟩ : ∃ n : Nat, base = n := ⟨base.toNat, by omega⟩
      have hB : 7 ≤ B ∧ B ≤ 10 := by omega
      have hask : askB b (Mo.within F 0 40) = 0 := askB_0.2 ⟨hcb, hf⟩
      have hg : gauR b F = .tup [IS (hasL b F), .int 0] := by
       unfold gauR
       dsimp only
       rw [hask, if_pos rfl, Int.toNat_natCast]
      have ho : ovrR b F = .tup [.int ((F : Int) - sumI (hasL b F)), .int 0] := by
       unfold ovrR
       dsimp only
       rw [hask, if_pos rfl, Int.toNat_natCast]
      have hln := hasL_len hb F
      have hat := fun i => at0_has hb F i
      have hsm := sum_has hb F
      simp -failIfUnchanged (disch := first|omega|(simp<;>omega)|fail) only [go_sem,simprocAttr]
      refine wcall (c31 b F) ?_
      rw [hg]
      simp -failIfUnchanged (disch := first|omega|(simp<;>omega)|fail) only [go_sem,simprocAttr]
      refine wcall (c32 b F) ?_
      rw [ho]
      obtain ⟨L, hL⟩ : ∃ L, hasL b F = L := ⟨_, rfl⟩
      rw [hL] at hln hat hsm ⊢
      obtain ⟨S, hS⟩ : ∃ S, sumI L = S := ⟨_, rfl⟩
      have hL0 : ∀ x ∈ L, 0 ≤ x ∧ x ≤ 20 := fun x hx => by
       obtain ⟨i, hi, rfl⟩ := List.getElem_of_mem hx
       have := hat i
       unfold at0 at this
       rw [List.getElem?_eq_getElem hi] at this
       exact this
      rw [hS] at hsm ⊢
      have e1 : decide ((F : Int) - S < 0) = false := decide_eq_false (by omega)
      have e2 : decide ((F : Int) < F - S) = false := decide_eq_false (by omega)
      simp -failIfUnchanged (disch := first|omega|(simp<;>omega)|fail) only [go_sem,simprocAttr, hln, e1, e2]
      refine wp_loop' Nat (fun i => ⟨[(1, .int F), (2, .int B), (7, IS L), (9, .int (F - S)), (11, .ptr 11 0), (12, .int i)], [(11, ⟨[.int B, .int 2, oC i, z2], false⟩)], oT i, none⟩) (fun i => i ≤ L.length) (fun i => L.length - i) 0 (by simp) (by unfold oC oT; simp -failIfUnchanged (disch := first|omega|(simp<;>omega)|fail) only [go_sem,simprocAttr]; try simp) ?_
      intro i hi
      have hi : i ≤ L.length := hi
      simp -failIfUnchanged (disch := first|omega|(simp<;>omega)|fail) only [go_sem,simprocAttr]
      refine wcond_dec (fun hc => ?_) (fun hc => ?_)
      ·rcases i with _ | i
       ·simp only [oC, oT]
        simp -failIfUnchanged (disch := first|omega|(simp<;>omega)|fail) only [go_sem,simprocAttr]
        refine ⟨1, by dsimp only; omega, by dsimp only; omega, ?_⟩
        simp only [oC, oT]
        simp -failIfUnchanged (disch := first|omega|(simp<;>omega)|fail) only [go_sem,simprocAttr]
        try simp
       ·simp only [oC, oT]
        simp -failIfUnchanged (disch := first|omega|(simp<;>omega)|fail) only [go_sem,simprocAttr]
        refine ⟨i + 2, by dsimp only; omega, by dsimp only; omega, ?_⟩
        simp only [oC, oT]
        simp -failIfUnchanged (disch := first|omega|(simp<;>omega)|fail) only [go_sem,simprocAttr]
        simp
        exact ⟨by omega, (List.replicate_succ' (n := i + 1) (a := z2)).symm⟩
      ·have hie : i = L.length := by omega
       subst hie
       simp -failIfUnchanged (disch := first|omega|(simp<;>omega)|fail) only [go_sem,simprocAttr, getT_oT]
       have hLb : L.length ≤ 4 := by omega
       have hB2 : 49 ≤ B ^ 2 := by
        have : 7 * 7 ≤ B * B := Nat.mul_le_mul hB.1 hB.1
        rw [Nat.pow_two]
        exact this
       have htw := Kn.Tw.zero B L
       have hvz := htw.val hB hLb
       have hcz := Kn.check_of_val hvz
       have hsz : Kn.Small (Kn.bk0 B L.length) := Kn.small_small (by unfold Kn.hugeB Kn.bk0; simp; omega)
       have hal : Kn.allN (Kn.bk0 B L.length) = B ^ 2 := rfl
       have hgT := getT_oT L.length
       obtain ⟨md, T, e3, e4, hcase⟩ := oC_is B L.length
       rw [e4] at hgT
       rw [e3, e4]
       have hlc : (Kn.bk0 B L.length).cords.length = L.length := by simp [Kn.bk0]
       obtain ⟨K0, hK0⟩ : ∃ K0, Kn.bk0 B L.length = K0 := ⟨_, rfl⟩
       have hk0 : K0.base = B ∧ K0.places = 2 ∧ Kn.SS K0.top = z2 := by rw [← hK0]; exact ⟨rfl, rfl, rfl⟩
       rw [hK0] at htw hvz hcz hsz hal hlc ⊢
       obtain ⟨kb, kp, kt⟩ := hk0
       rw [← kt]
       rcases hcase with ⟨hm, hT⟩ | ⟨hm, kk, hT⟩
       all_goals
        refine wp_loop' Nat (fun i => ⟨[(1, .int F), (2, .int B), (7, IS L), (9, .int (F - S)), (11, .ptr 11 0), (13, .sl 1 (((Kn.rdN B L).take i).map IS) (.own 13)), (14, .int i)], [(11, ⟨[.int B, .int 2, .sl 1 (K0.cords.map Kn.SS) md, Kn.SS K0.top], false⟩)], (13, i) :: T, none⟩) (fun i => i ≤ L.length + 1) (fun i => L.length + 1 - i) 0 (by simp) (by simp -failIfUnchanged (disch := first|omega|(simp<;>omega)|fail) only [go_sem,simprocAttr, hm, hT]; try simp) ?_
        intro i hi
        have hi : i ≤ L.length + 1 := hi
        have hrl := Kn.rdN_len B L
        simp -failIfUnchanged (disch := first|omega|(simp<;>omega)|fail) only [go_sem,simprocAttr, hm, hT]
        refine wcond_dec (fun hc => ?_) (fun hc => ?_)
        ·have hile : i ≤ L.length := by omega
         have hto : (Kn.tn L)[i]?.getD default < B ^ 2 := by
          rcases Nat.lt_or_ge i L.length with q | q
          ·rw [Kn.tn_at q]
           have := hL0 _ (Kn.mem_getD q)
           omega
          ·obtain rfl : i = L.length := by omega
           rw [Kn.tn_top]
           omega
         have hti : ∀ N : Int, N = ((Kn.tn L)[i]?.getD default : Nat) → Kn.tieR K0 N = (Kn.tieN B 2 ((Kn.tn L)[i]?.getD default), 0) := by
          intro N hN
          unfold Kn.tieR
          rw [hcz, if_pos rfl, if_pos (by rw [hal]; unfold Kn.within; exact decide_eq_true (by omega)), hN, Int.toNat_natCast, kb, kp]
          rfl
         have hdg := Kn.dig_of hB kb kp ((Kn.tn L)[i]?.getD default)
         have hsu := Kn.rdN_succ B hile
         have htl := Kn.tieN_len B 2 ((Kn.tn L)[i]?.getD default)
         have c33' : ∀ N : Int, N = ((Kn.tn L)[i]?.getD default : Nat) → Ctr Tryz.prog 33 [.agg [.int B, .int 2, .sl 1 (K0.cords.map Kn.SS) .sh, Kn.SS K0.top], .int N] (.tup [IS (Kn.tieN B 2 ((Kn.tn L)[i]?.getD default)), .int 0]) := fun N hN => by
          have := Kn.c33r K0 hsz N
          rw [hti N hN] at this
          unfold Kn.KB at this
          rw [kb, kp] at this
          exact this
         have c34' : Ctr Tryz.prog 34 [.agg [.int B, .int 2, .sl 1 (K0.cords.map Kn.SS) .sh, Kn.SS K0.top], IS (Kn.tieN B 2 ((Kn.tn L)[i]?.getD default))] (.bool true) := by
          have := Kn.c34 K0 (Kn.tieN B 2 ((Kn.tn L)[i]?.getD default)) (by omega)
          rw [hdg] at this
          unfold Kn.KB at this
          rw [kb, kp] at this
          exact this
         obtain ⟨DG, hDG⟩ : ∃ DG, Kn.tieN B 2 ((Kn.tn L)[i]?.getD default) = DG := ⟨_, rfl⟩
         rw [hDG] at hsu htl c34'
         simp only [hDG] at c33'
         have htk : ((Kn.rdN B L).take i).length = i := by rw [List.length_take]; omega
         simp -failIfUnchanged (disch := first|omega|(simp<;>omega)|fail) only [go_sem,simprocAttr]
         refine wcond_dec (fun h9 => ?_) (fun h9 => ?_)
         ·simp -failIfUnchanged (disch := first|omega|(simp<;>omega)|fail) only [go_sem,simprocAttr]
          refine wcall (c33' _ ?_) ?_
          ·have q : i < L.length := by omega
           rw [Kn.tn_at q]
           have := hL0 _ (Kn.mem_getD q)
           omega
          simp -failIfUnchanged (disch := first|omega|(simp<;>omega)|fail) only [go_sem,simprocAttr]
          refine wcall c34' ?_
          simp -failIfUnchanged (disch := first|omega|(simp<;>omega)|fail) only [go_sem,simprocAttr, hm, hT, htk]
          refine ⟨i + 1, by dsimp only; omega, by dsimp only; omega, ?_⟩
          dsimp only
          rw [hsu]
          simp -failIfUnchanged (disch := first|omega|(simp<;>omega)|fail) only [go_sem,simprocAttr, hm, hT, htk]
          try simp
         ·simp -failIfUnchanged (disch := first|omega|(simp<;>omega)|fail) only [go_sem,simprocAttr]
          refine wcall (c33' _ ?_) ?_
          ·obtain rfl : i = L.length := by omega
           rw [Kn.tn_top]
           omega
          simp -failIfUnchanged (disch := first|omega|(simp<;>omega)|fail) only [go_sem,simprocAttr]
          refine wcall c34' ?_
          simp -failIfUnchanged (disch := first|omega|(simp<;>omega)|fail) only [go_sem,simprocAttr, hm, hT, htk]
          refine ⟨i + 1, by dsimp only; omega, by dsimp only; omega, ?_⟩
          dsimp only
          rw [hsu]
          simp -failIfUnchanged (disch := first|omega|(simp<;>omega)|fail) only [go_sem,simprocAttr, hm, hT, htk]
          try simp
        ·have hie : i = L.length + 1 := by omega
         subst hie
         have hRr := fun i (hi : i ≤ L.length) => Kn.rdN_row B hi
         have hRd := fun i p (hi : i ≤ L.length) (hp : p < 2) => Kn.rdN_dig B (L := L) (i := i) (p := p) hi hp
         rw [List.take_of_length_le (show (Kn.rdN B L).length ≤ L.length + 1 by omega)]
         obtain ⟨R, hR⟩ : ∃ R, Kn.rdN B L = R := ⟨_, rfl⟩
         rw [hR] at hrl hRr hRd ⊢
         simp -failIfUnchanged (disch := first|omega|(simp<;>omega)|fail) only [go_sem,simprocAttr, hm, hT]
         refine wp_loop' (Nat × Kn.Bk × Bool) (fun s => ⟨[(2, .int B), (7, IS L), (11, .ptr 11 0), (13, Kn.RS R), (18, .int s.1)], [(11, ⟨[.int B, .int 2, .sl 1 (s.2.1.cords.map Kn.SS) (cond s.2.2 md .sh), Kn.SS s.2.1.top], false⟩)], T, none⟩) (fun s => s.1 ≤ L.length + 1 ∧ Kn.Tw B L s.1 0 s.2.1 ∧ (s.2.2 = true → s.1 = 0)) (fun s => L.length + 1 - s.1) (0, K0, true) ⟨by dsimp only; omega, htw, fun _ => rfl⟩ (by simp -failIfUnchanged (disch := first|omega|(simp<;>omega)|fail) only [go_sem,simprocAttr, hm, hT, cond_true]; try simp) ?_
         rintro ⟨i, b1, fl⟩ ⟨h1, h2, h3⟩
         dsimp only at h1 h2 h3 ⊢
         simp -failIfUnchanged (disch := first|omega|(simp<;>omega)|fail) only [go_sem,simprocAttr, hm, hT, hrl]
         refine wcond_dec (fun hc => ?_) (fun hc => ?_)
         ·have hile : i ≤ L.length := by omega
          simp -failIfUnchanged (disch := first|omega|(simp<;>omega)|fail) only [go_sem,simprocAttr, hm, hT]
          refine wp_loop' (Nat × Kn.Bk × Bool) (fun s => ⟨[(2, .int B), (7, IS L), (11, .ptr 11 0), (13, Kn.RS R), (18, .int i), (19, .int s.1)], [(11, ⟨[.int B, .int 2, .sl 1 (s.2.1.cords.map Kn.SS) (cond s.2.2 md .sh), Kn.SS s.2.1.top], false⟩)], T, none⟩) (fun s => s.1 ≤ 2 ∧ Kn.Tw B L i s.1 s.2.1 ∧ (s.2.2 = true → s.1 = 0)) (fun s => 2 - s.1) (0, b1, fl) ⟨by dsimp only; omega, h2, fun _ => rfl⟩ (by cases fl <;> (simp -failIfUnchanged (disch := first|omega|(simp<;>omega)|fail) only [go_sem,simprocAttr, hm, hT, cond_true, cond_false]; try simp)) ?_
          rintro ⟨p, b2, gl⟩ ⟨g1, g2, g3⟩
          dsimp only at g1 g2 g3 ⊢
          simp -failIfUnchanged (disch := first|omega|(simp<;>omega)|fail) only [go_sem,simprocAttr, hm, hT]
          refine wcond_dec (fun hp => ?_) (fun hp => ?_)
          ·have hp2 : p < 2 := by omega
           have hv2 := g2.val hB hLb
           have hnx := g2.step hile hp2
           have c27' := Kn.c27r b2 hv2 i p (Kn.dd (((Kn.tn L)[i]?.getD default / B ^ (1 - p) % B : Nat) : Int)) (by rw [g2.len]; omega) (by rw [g2.places]; exact hp2)
           have hRr' := hRr i hile
           have hRd' := hRd i p hile hp2
           have kb3 := hnx.base
           have kp3 := hnx.places
           obtain ⟨D, hD⟩ : ∃ D : Nat, (Kn.tn L)[i]?.getD default / B ^ (1 - p) % B = D := ⟨_, rfl⟩
           rw [hD] at c27' hnx hRd' kb3 kp3
           obtain ⟨b3, hb3⟩ : ∃ b3, Kn.withB b2 i p (Kn.dd D) = b3 := ⟨_, rfl⟩
           rw [hb3] at c27' hnx kb3 kp3
           unfold Kn.KB at c27'
           rw [g2.base, g2.places, kb3, kp3] at c27'
           obtain ⟨row, hrow⟩ : ∃ row, R[i]?.getD default = row := ⟨_, rfl⟩
           rw [hrow] at hRr' hRd'
           cases gl
           all_goals
            simp -failIfUnchanged (disch := first|omega|(simp<;>omega)|fail) only [go_sem,simprocAttr, hm, hT, cond_true, cond_false, hrow, hRr', hRd']
            refine wcall c27' ?_
            simp -failIfUnchanged (disch := first|omega|(simp<;>omega)|fail) only [go_sem,simprocAttr, hm, hT]
            refine ⟨(p + 1, b3, false), ⟨by dsimp only; omega, hnx, fun h => by cases h⟩, by dsimp only; omega, ?_⟩
            dsimp only
            simp -failIfUnchanged (disch := first|omega|(simp<;>omega)|fail) only [go_sem,simprocAttr, hm, hT, cond_false]
            try simp
          ·obtain rfl : p = 2 := by omega
           obtain rfl : gl = false := by
            cases gl with
            | false => rfl
            | true => have := g3 rfl; omega
           simp -failIfUnchanged (disch := first|omega|(simp<;>omega)|fail) only [go_sem,simprocAttr, hm, hT]
           refine ⟨(i + 1, b2, false), ⟨by dsimp only; omega, g2.next, fun h => by cases h⟩, by dsimp only; omega, ?_⟩
           dsimp only
           simp -failIfUnchanged (disch := first|omega|(simp<;>omega)|fail) only [go_sem,simprocAttr, hm, hT, cond_false]
           try simp
         ·obtain rfl : i = L.length + 1 := by omega
          obtain rfl : fl = false := by
           cases fl with
           | false => rfl
           | true => have := h3 rfl; omega
          have hTg := h2.done hB hLb hL0 (by omega)
          have hv1 := hTg.val
          have hs1 := Kn.small_val hv1
          have hc1 := hTg.check
          have kl1 := h2.len
          have kb1 := h2.base
          have kp1 := h2.places
          simp -failIfUnchanged (disch := first|omega|(simp<;>omega)|fail) only [go_sem,simprocAttr, hm, hT, cond_false]
          refine wp_loop' Nat (fun i => ⟨[(2, .int B), (7, IS L), (11, .ptr 11 0), (13, Kn.RS R), (20, .sl 1 ((R.take i).map IS) (.own 20)), (21, .int i)], [(11, ⟨[.int B, .int 2, .sl 1 (b1.cords.map Kn.SS) .sh, Kn.SS b1.top], false⟩)], [(20, i)], none⟩) (fun i => i ≤ L.length + 1) (fun i => L.length + 1 - i) 0 (by simp) (by simp -failIfUnchanged (disch := first|omega|(simp<;>omega)|fail) only [go_sem,simprocAttr, hm, hT]; try simp) ?_
          intro i hi
          have hi : i ≤ L.length + 1 := hi
          simp -failIfUnchanged (disch := first|omega|(simp<;>omega)|fail) only [go_sem,simprocAttr, hrl]
          refine wcond_dec (fun hc => ?_) (fun hc => ?_)
          ·have hlt : i < L.length + 1 := by omega
           have hRr' := hRr i (by omega)
           have htk : (R.take i).length = i := by rw [List.length_take]; omega
           have hsu : R.take (i + 1) = R.take i ++ [R[i]?.getD default] := by
            rw [List.take_add_one, List.getElem?_eq_getElem (by omega)]
            rfl
           obtain ⟨row, hrow⟩ : ∃ row, R[i]?.getD default = row := ⟨_, rfl⟩
           rw [hrow] at hRr' hsu
           simp -failIfUnchanged (disch := first|omega|(simp<;>omega)|fail) only [go_sem,simprocAttr, hrow, hrl, htk]
           refine ⟨i + 1, by dsimp only; omega, by dsimp only; omega, ?_⟩
           dsimp only
           rw [hsu]
           simp -failIfUnchanged (disch := first|omega|(simp<;>omega)|fail) only [go_sem,simprocAttr, htk]
           try simp
          ·obtain rfl : i = L.length + 1 := by omega
           rw [List.take_of_length_le (show R.length ≤ L.length + 1 by omega)]
           have hrr : Kn.rightR b1 R = (true, 0) := by
            unfold Kn.rightR
            rw [hc1, if_pos rfl, ← hR]
            exact congrArg (·, 0) hTg.right
           have c35' := Kn.c35 b1 hs1 (by omega) R (by omega) (fun l hl => by
            obtain ⟨j, hj, rfl⟩ := List.getElem_of_mem hl
            have := hRr j (by omega)
            rw [List.getElem?_eq_getElem hj] at this
            have : R[j].length = 2 := this
            omega)
           rw [hrr] at c35'
           have c22' := Kn.c22k b1 hs1 hc1
           rw [hTg.all] at c22'
           have c36' := Kn.c36k b1 hs1 hc1
           rw [hTg.least] at c36'
           obtain ⟨x, hx, hx0, hx4⟩ := hTg.carry
           have c37' := Kn.c37r b1 hs1 1
           rw [hx] at c37'
           unfold Kn.KB at c35' c22' c36' c37'
           rw [kb1, kp1] at c35' c22' c36' c37'
           have e5 : decide (x < 0) = false := decide_eq_false (by omega)
           have e6 : decide ((4 : Int) < x) = false := decide_eq_false (by omega)
           simp -failIfUnchanged (disch := first|omega|(simp<;>omega)|fail) only [go_sem,simprocAttr]
           refine wcall c35' ?_
           simp -failIfUnchanged (disch := first|omega|(simp<;>omega)|fail) only [go_sem,simprocAttr]
           refine wcall c22' ?_
           simp -failIfUnchanged (disch := first|omega|(simp<;>omega)|fail) only [go_sem,simprocAttr]
           refine wcall c36' ?_
           simp -failIfUnchanged (disch := first|omega|(simp<;>omega)|fail) only [go_sem,simprocAttr]
           refine wcall c37' ?_
           simp -failIfUnchanged (disch := first|omega|(simp<;>omega)|fail) only [go_sem,simprocAttr, e5, e6]
           have hRn := hRr L.length (Nat.le_refl _)
           have hdn := hRd L.length 1 (Nat.le_refl _) (by omega)
           rw [show B ^ (1 - 1) = 1 from rfl, Nat.div_one] at hdn
           have hoth := fun {d : Nat} (hd : d < B) => hTg.other (d := d) hd
           have hc27 := fun (d : Int) => Kn.c27r b1 hv1 L.length 1 (Kn.dd d) (by omega) (by rw [kp1]; decide)
           rw [kl1] at hoth
           obtain ⟨y, hy⟩ : ∃ y : Nat, (Kn.tn L)[L.length]?.getD default % B = y := ⟨_, rfl⟩
           have hyB : y < B := by rw [← hy]; exact Nat.mod_lt _ (by omega)
           rw [hy] at hdn hoth
           obtain ⟨row, hrow⟩ : ∃ row, R[L.length]?.getD default = row := ⟨_, rfl⟩
           rw [hrow] at hRn hdn
           refine wp_loop' Nat (fun k => ⟨[(2, .int B), (7, IS L), (11, .ptr 11 0), (13, Kn.RS R), (28, .int (2 * (k : Int) - 1))], [(11, ⟨[.int B, .int 2, .sl 1 (b1.cords.map Kn.SS) .sh, Kn.SS b1.top], false⟩)], [], none⟩) (fun k => k ≤ 2) (fun k => 2 - k) 0 (by simp) (by simp -failIfUnchanged (disch := first|omega|(simp<;>omega)|fail) only [go_sem,simprocAttr]; try simp) ?_
           intro k hk
           have hk : k ≤ 2 := hk
           simp -failIfUnchanged (disch := first|omega|(simp<;>omega)|fail) only [go_sem,simprocAttr]
           refine wcond_dec (fun hc => ?_) (fun hc => ?_)
           ·simp -failIfUnchanged (disch := first|omega|(simp<;>omega)|fail) only [go_sem,simprocAttr, hrow, hRn, hdn, hrl]
            refine wcall (Mo.c8 _ _ _) ?_
            cases hw : Mo.within ((y : Int) + (2 * (k : Int) - 1)) 0 ((B : Int) - 1) with
            | false =>
             simp -failIfUnchanged (disch := first|omega|(simp<;>omega)|fail) only [go_sem,simprocAttr]
             refine ⟨k + 1, by dsimp only; omega, by dsimp only; omega, ?_⟩
             dsimp only
             simp -failIfUnchanged (disch := first|omega|(simp<;>omega)|fail) only [go_sem,simprocAttr]
             simp
             omega
            | true =>
             have hw' := Mo.within_iff.1 hw
             obtain ⟨d, hd⟩ : ∃ d : Nat, (y : Int) + (2 * (k : Int) - 1) = d := ⟨((y : Int) + (2 * (k : Int) - 1)).toNat, by omega⟩
             obtain ⟨hvq, hlq, hmq⟩ := hoth (d := d) (by omega) (by omega)
             have c27'' := hc27 d
             have hql := Kn.withB_len b1 L.length 1 (Kn.dd d)
             have hqb := Kn.withB_base b1 L.length 1 (Kn.dd d)
             have hqp := Kn.withB_places b1 L.length 1 (Kn.dd d)
             obtain ⟨q, hq⟩ : ∃ q, Kn.withB b1 L.length 1 (Kn.dd d) = q := ⟨_, rfl⟩
             rw [hq] at hvq hlq hmq c27'' hql hqb hqp
             rw [kb1] at hqb
             rw [kp1] at hqp
             have hsq := Kn.small_val hvq
             have hcq := Kn.check_of_val hvq
             have c36q := Kn.c36k q hsq hcq
             rw [hlq] at c36q
             have c38q := Kn.c38r q hsq
             have hbl := (Kn.blL_rise q (L.length + 1)).2.2
             have hbv : Kn.blameV q = (Kn.blL q (L.length + 1), 0) := by
              unfold Kn.blameV
              rw [hcq, if_pos rfl, if_neg (by omega), hql, kl1]
             rw [hbv] at c38q
             obtain ⟨bl, hbl2⟩ : ∃ bl, Kn.blL q (L.length + 1) = bl := ⟨_, rfl⟩
             rw [hbl2] at c38q hbl hmq
             have c39q := Mo.c39 bl (L.length : Nat) (by omega)
             rw [decide_eq_true hmq] at c39q
             unfold Kn.KB at c27'' c36q c38q
             rw [kb1, kp1, hqb, hqp] at c27''
             rw [hqb, hqp] at c36q c38q
             have e7 : decide ((L.length : Int) + 1 < (bl.length : Int)) = false := decide_eq_false (by omega)
             rw [hd]
             simp -failIfUnchanged (disch := first|omega|(simp<;>omega)|fail) only [go_sem,simprocAttr]
             refine wcall c27'' ?_
             simp -failIfUnchanged (disch := first|omega|(simp<;>omega)|fail) only [go_sem,simprocAttr]
             refine wcall c36q ?_
             simp -failIfUnchanged (disch := first|omega|(simp<;>omega)|fail) only [go_sem,simprocAttr]
             refine wcall c38q ?_
             simp -failIfUnchanged (disch := first|omega|(simp<;>omega)|fail) only [go_sem,simprocAttr, e7]
             refine wcall c39q ?_
             simp -failIfUnchanged (disch := first|omega|(simp<;>omega)|fail) only [go_sem,simprocAttr]
             refine ⟨k + 1, by dsimp only; omega, by dsimp only; omega, ?_⟩
             dsimp only
             simp -failIfUnchanged (disch := first|omega|(simp<;>omega)|fail) only [go_sem,simprocAttr]
             simp
             omega
           ·simp -failIfUnchanged (disch := first|omega|(simp<;>omega)|fail) only [go_sem,simprocAttr]
            refine wcall c21 ?_
            simp -failIfUnchanged (disch := first|omega|(simp<;>omega)|fail) only [go_sem,simprocAttr]
            try simp
   ·simp -failIfUnchanged (disch := first|omega|(simp<;>omega)|fail) only [go_sem,simprocAttr, hl]
    refine wcall c21 ?_
    simp -failIfUnchanged (disch := first|omega|(simp<;>omega)|fail) only [go_sem,simprocAttr]
    try simp
end Go.Proofs.YtpangdaijhiohaaGreatDoor.To
