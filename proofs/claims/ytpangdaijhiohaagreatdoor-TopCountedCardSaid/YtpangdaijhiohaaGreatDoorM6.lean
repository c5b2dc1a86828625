/- Merged by program: T407, T408, T409, T410, T411, T412, T413, T414, T415, T416, T417, T418, T419, T420, T421, T422, T423, T424, T425, T426, T428, T429, T430, T431, T432, T433, T434, T434b, T435, T436, T437, T438, T439, T440, T441, T442, T443, T444, T445, T446, T447, T448, T449, T450, T451a, T452, T453, T454, T455, T456, T458, T459, T460, T461, T462, T463, T464, T501, T502, T503, T504, T505. -/
import Derived.Test.YtpangdaijhiohaaGreatDoorM5
import Derived.ProofKit
import Derived.Test.YtpangdaijhiohaaGreatDoorChecked
import Derived.Test.YtpangdaijhiohaaGreatDoorRows
import Derived.Deep.Strs
import Derived.LaidMore
import Derived.OpenShut
set_option linter.unusedSimpArgs false
set_option linter.unusedVariables false
set_option linter.unnecessarySimpa false
namespace Go.Proofs.YtpangdaijhiohaaGreatDoor.Kn
open Go Go.V
theorem c117 (c p d : Int) : Ctr Tryz.prog 117 [.int c, .int p, .int d] (.bool true) := by
 refine ctr_of_wp hmix Tryz.func117 m117 rfl ?_
 unfold v117
 simp -failIfUnchanged (disch := first|omega|(simp [wcs_len]<;>omega)|fail) only [go_sem,simprocAttr]
theorem c118 (c p : Int) : Ctr Tryz.prog 118 [.int c, .int p] (.bool true) := by
 refine ctr_of_wp hmix Tryz.func118 m118 rfl ?_
 unfold v118
 simp -failIfUnchanged (disch := first|omega|(simp [wcs_len]<;>omega)|fail) only [go_sem,simprocAttr]
theorem ag112 : aggOf Tryz.prog 112 = some true := by kernel_rfl
theorem sz112 : szOf Tryz.prog 112 = some 6 := by kernel_rfl
attribute [go_sem] ag112 sz112
theorem c72 (b : Bk) : Ctr Tryz.prog 72 [KB b] (LM b (.clo 117 [] []) (.clo 118 [] [])) := by
 refine ctr_of_wp hmix Tryz.func72 m72 rfl ?_
 unfold v72
 simp -failIfUnchanged (disch := first|omega|(simp [wcs_len]<;>omega)|fail) only [go_sem,simprocAttr]
def onlyF (may : Nat → Nat → Nat → Bool) (cord place digit : Nat) (c p d : Nat) : Bool := may c p d && (decide (¬ c = cord) || (decide (¬ p = place) || decide (d = digit)))
abbrev capsO (g : Nat) (caps : List AV) (cord place digit : Nat) : List AV :=
 [.ref 1 [.agg [.clo g [] caps]] 0 0, .ref 1 [.agg [.int cord]] 0 0, .ref 1 [.agg [.int place]] 0 0, .ref 1 [.agg [.int digit]] 0 0]
theorem c109 (g : Nat) (caps : List AV) (may : Nat → Nat → Nat → Bool) (cord place digit c p d : Nat)
  (hmay : Ctr Tryz.prog g ([.int c, .int p, .int d] ++ caps) (.bool (may c p d))) :
  Ctr Tryz.prog 109 ([.int c, .int p, .int d] ++ capsO g caps cord place digit) (.bool (onlyF may cord place digit c p d)) := by
 refine ctr_of_wp hmix Tryz.func109 m109 rfl ?_
 unfold v109
 simp -failIfUnchanged (disch := first|omega|(simp [wcs_len]<;>omega)|fail) only [go_sem,simprocAttr]
 refine wcall hmay ?_
 simp -failIfUnchanged (disch := first|omega|(simp [wcs_len]<;>omega)|fail) only [go_sem,simprocAttr]
 refine WGd_bool (fun h1 => ?_) (fun h1 => ?_)
 ·simp -failIfUnchanged (disch := first|omega|(simp [wcs_len]<;>omega)|fail) only [go_sem,simprocAttr, h1]
  refine WGd_bool (fun h2 => ?_) (fun h2 => ?_)
  ·simp -failIfUnchanged (disch := first|omega|(simp [wcs_len]<;>omega)|fail) only [go_sem,simprocAttr, h1, h2]
   refine WGd_bool (fun h3 => ?_) (fun h3 => ?_)
   ·simp -failIfUnchanged (disch := first|omega|(simp [wcs_len]<;>omega)|fail) only [go_sem,simprocAttr, h1, h2, h3]
    simp only [decide_eq_false_iff_not, Decidable.not_not] at h2 h3
    have e2 : c = cord := by omega
    have e3 : p = place := by omega
    have e4 : ((d : Int) = (digit : Int)) ↔ d = digit := by omega
    rw [e2, e3] at h1
    simp [onlyF, h1, e2, e3, e4]
   ·simp -failIfUnchanged (disch := first|omega|(simp [wcs_len]<;>omega)|fail) only [go_sem,simprocAttr, h1, h2, h3]
    simp only [Bool.not_false, decide_eq_true_eq] at h3
    have e3 : ¬ p = place := by omega
    simp [onlyF, h1, e3]
  ·simp -failIfUnchanged (disch := first|omega|(simp [wcs_len]<;>omega)|fail) only [go_sem,simprocAttr, h1, h2]
   simp only [Bool.not_false, decide_eq_true_eq] at h2
   have e2 : ¬ c = cord := by omega
   simp [onlyF, h1, e2]
 ·simp -failIfUnchanged (disch := first|omega|(simp [wcs_len]<;>omega)|fail) only [go_sem,simprocAttr, h1]
  simp only [Bool.not_true] at h1
  simp [onlyF, h1]
theorem c64 (b : Bk) (g g2 : Nat) (caps caps2 : List AV) (cord place digit : Nat) : Ctr Tryz.prog 64 [LM b (.clo g [] caps) (.clo g2 [] caps2), .int cord, .int place, .int digit] (LM b (.clo 109 [] (capsO g caps cord place digit)) (.clo g2 [] caps2)) := by
 refine ctr_of_wp hmix Tryz.func64 m64 rfl ?_
 unfold v64
 simp -failIfUnchanged (disch := first|omega|(simp [wcs_len]<;>omega)|fail) only [go_sem,simprocAttr]
theorem c73 (b : Bk) (hv : Val b) (g g2 : Nat) (caps caps2 : List AV) (may : Nat → Nat → Nat → Bool) (carry : Nat → Nat → Bool)
  (hmay : ∀ c p d : Nat, c ≤ b.cords.length → p < b.places.toNat → d < b.base.toNat → Ctr Tryz.prog g ([.int c, .int p, .int d] ++ caps) (.bool (may c p d)))
  (hcarry : ∀ p n : Nat, p < b.places.toNat → n ≤ 50 → Ctr Tryz.prog g2 ([.int p, .int n] ++ caps2) (.bool (carry p n))) :
  Ctr Tryz.prog 73 [LM b (.clo g [] caps) (.clo g2 [] caps2)] (.int (solveL b may carry).r) := by
 refine ctr_of_wp hmix Tryz.func73 m73 rfl ?_
 unfold v73
 simp -failIfUnchanged (disch := first|omega|(simp [wcs_len]<;>omega)|fail) only [go_sem,simprocAttr]
 refine wcall (c85 b hv g g2 caps caps2 may carry hmay hcarry) ?_
 simp -failIfUnchanged (disch := first|omega|(simp [wcs_len]<;>omega)|fail) only [go_sem,simprocAttr]
theorem val_of_check {b : Bk} (h : checkB b = true) : Val b := by
 simp only [checkB, within, isCordB, Bool.and_eq_true, decide_eq_true_eq, Bool.not_eq_true', List.any_eq_false, Bool.not_eq_true, Bool.not_eq_false'] at h
 obtain ⟨h1, h2, h3, h4, h5, h6⟩ := h
 have key : ∀ s : Sp, badS b s = false → 0 ≤ s.lo ∧ s.lo ≤ s.hi ∧ s.hi < b.base := by
  intro s hs
  simp only [badS, within, Bool.or_eq_false_iff, Bool.not_eq_false', decide_eq_true_eq, decide_eq_false_iff_not] at hs
  omega
 refine ⟨h1, h2, by omega, fun l hl => ?_, h5, fun s hs => key s (by simpa using h6 s hs)⟩
 have := h4 l hl
 simp only [Bool.and_eq_false_iff, decide_eq_false_iff_not, not_or, Decidable.not_not, Bool.not_eq_false', Bool.not_eq_true, List.any_eq_false] at this
 obtain ⟨k1, k2⟩ := this
 exact ⟨k1, fun s hs => key s (by simpa using k2 s hs)⟩
def yes3 (_ _ _ : Nat) : Bool := true
def yes2 (_ _ : Nat) : Bool := true
theorem c22 (b : Bk) (hs : Small b) : Ctr Tryz.prog 22 [KB b] (if checkB b then .tup [.int (solveL b yes3 yes2).r, .int 0] else .tup [.int 0, .int 110]) := by
 refine ctr_of_wp hmix Tryz.func22 m22 rfl ?_
 unfold v22
 simp -failIfUnchanged (disch := first|omega|(simp [wcs_len]<;>omega)|fail) only [go_sem,simprocAttr]
 refine wcall (c71 b hs) ?_
 cases hc : checkB b with
 | false => simp -failIfUnchanged (disch := first|omega|(simp [wcs_len]<;>omega)|fail) only [go_sem,simprocAttr]
 | true =>
  simp -failIfUnchanged (disch := first|omega|(simp [wcs_len]<;>omega)|fail) only [go_sem,simprocAttr]
  refine wcall (c72 b) ?_
  simp -failIfUnchanged (disch := first|omega|(simp [wcs_len]<;>omega)|fail) only [go_sem,simprocAttr]
  refine wcall (c73 b (val_of_check hc) 117 118 [] [] yes3 yes2 (fun c p d _ _ _ => c117 c p d) (fun p n _ _ => c118 p n)) ?_
  simp -failIfUnchanged (disch := first|omega|(simp [wcs_len]<;>omega)|fail) only [go_sem,simprocAttr]
theorem c48 (b : Bk) (hs : Small b) (is : Bool) : Ctr Tryz.prog 48 [KB b, .bool is] (.int (if checkB b then if is then 0 else 1 else 110)) := by
 refine ctr_of_wp hmix Tryz.func48 m48 rfl ?_
 unfold v48
 simp -failIfUnchanged (disch := first|omega|(simp [wcs_len]<;>omega)|fail) only [go_sem,simprocAttr]
 refine wcall (c71 b hs) ?_
 cases hc : checkB b with
 | false => simp -failIfUnchanged (disch := first|omega|(simp [wcs_len]<;>omega)|fail) only [go_sem,simprocAttr]
 | true =>
  cases is with
  | false => simp -failIfUnchanged (disch := first|omega|(simp [wcs_len]<;>omega)|fail) only [go_sem,simprocAttr]
  | true => simp -failIfUnchanged (disch := first|omega|(simp [wcs_len]<;>omega)|fail) only [go_sem,simprocAttr]
theorem c60 (b : Bk) (hs : Small b) (is : Bool) (hc : checkB b = true) (his : is = true) (hn : ¬ (solveL b yes3 yes2).r = 0) : Ctr Tryz.prog 60 [KB b, .bool is] (.tup [LM b (.clo 117 [] []) (.clo 118 [] []), .int 0]) := by
 subst his
 refine ctr_of_wp hmix Tryz.func60 m60 rfl ?_
 unfold v60
 simp -failIfUnchanged (disch := first|omega|(simp [wcs_len]<;>omega)|fail) only [go_sem,simprocAttr]
 refine wcall (c48 b hs true) ?_
 simp -failIfUnchanged (disch := first|omega|(simp [wcs_len]<;>omega)|fail) only [go_sem,simprocAttr, hc]
 refine wcall (c72 b) ?_
 simp -failIfUnchanged (disch := first|omega|(simp [wcs_len]<;>omega)|fail) only [go_sem,simprocAttr]
 refine wcall (c73 b (val_of_check hc) 117 118 [] [] yes3 yes2 (fun c p d _ _ _ => c117 c p d) (fun p n _ _ => c118 p n)) ?_
 simp -failIfUnchanged (disch := first|omega|(simp [wcs_len]<;>omega)|fail) only [go_sem,simprocAttr, hn]
end Go.Proofs.YtpangdaijhiohaaGreatDoor.Kn

set_option linter.unusedSimpArgs false
set_option linter.unusedVariables false
set_option linter.unnecessarySimpa false
namespace Go.Proofs.YtpangdaijhiohaaGreatDoor.Kn
open Go Go.V
def numL (base : Int) (l : List Int) : Int := l.foldl (fun n d => w64 (w64 (n * base) + d)) 0
theorem c63 (base : Int) (l : List Int) (hl : l.length < 4294967296) : Ctr Tryz.prog 63 [.int base, IS l] (.int (numL base l)) := by
 refine ctr_of_wp hmix Tryz.func63 m63 rfl ?_
 unfold v63 IS
 simp -failIfUnchanged (disch := first|omega|(simp [wcs_len]<;>omega)|fail) only [go_sem,simprocAttr]
 refine wp_loop' (Nat × Int) (fun x => ⟨[(0, .int base), (5, .int x.2), (8, IS l), (9, .int l.length), (10, .int x.1)], [], [], none⟩) (fun x => x.1 ≤ l.length ∧ x.2 = numL base (l.take x.1)) (fun x => l.length - x.1) (0, 0) (by simp [numL]) (by unfold IS; simp -failIfUnchanged (disch := first|omega|(simp [wcs_len]<;>omega)|fail) only [go_sem,simprocAttr]; try simp) ?_
 rintro ⟨i, n⟩ ⟨hi, hn⟩
 dsimp only at hi hn ⊢
 unfold IS
 simp -failIfUnchanged (disch := first|omega|(simp [wcs_len]<;>omega)|fail) only [go_sem,simprocAttr]
 refine wcond_dec (fun h => ?_) (fun h => ?_)
 ·simp -failIfUnchanged (disch := first|omega|(simp [wcs_len]<;>omega)|fail) only [go_sem,simprocAttr]
  have hlt : i < l.length := by omega
  refine ⟨(i + 1, numL base (l.take (i + 1))), ⟨by omega, rfl⟩, by dsimp only; omega, ?_⟩
  have e : numL base (l.take (i + 1)) = w64 (w64 (n * base) + l[i]?.getD default) := by
   rw [hn]
   unfold numL
   rw [List.take_add_one, List.getElem?_eq_getElem hlt, List.foldl_append]
   rfl
  rw [e]
  simp -failIfUnchanged (disch := first|omega|(simp [wcs_len]<;>omega)|fail) only [go_sem,simprocAttr]
  try simp
 ·simp -failIfUnchanged (disch := first|omega|(simp [wcs_len]<;>omega)|fail) only [go_sem,simprocAttr]
  have e : i = l.length := by omega
  rw [hn, e, List.take_length]
end Go.Proofs.YtpangdaijhiohaaGreatDoor.Kn

set_option linter.unusedSimpArgs false
set_option linter.unusedVariables false
set_option linter.unnecessarySimpa false
namespace Go.Proofs.YtpangdaijhiohaaGreatDoor.Kn
open Go Go.V
theorem c8 (n lo hi : Int) : Ctr Tryz.prog 8 [.int n, .int lo, .int hi] (.bool (within n lo hi)) := by
 refine ctr_of_wp hmix Tryz.func8 m8 rfl ?_
 unfold v8
 simp -failIfUnchanged (disch := first|omega|(simp [wcs_len]<;>omega)|fail) only [go_sem,simprocAttr]
 refine WGd_bool (fun h => ?_) (fun h => ?_)
 ·simp -failIfUnchanged (disch := first|omega|(simp [wcs_len]<;>omega)|fail) only [go_sem,simprocAttr, h]
  simp only [decide_eq_true_eq] at h
  simp [within, h]
 ·simp -failIfUnchanged (disch := first|omega|(simp [wcs_len]<;>omega)|fail) only [go_sem,simprocAttr, h]
  simp only [Bool.not_true, decide_eq_false_iff_not] at h
  simp [within, h]
theorem c41 (n lo hi : Int) : Ctr Tryz.prog 41 [.int n, .int lo, .int hi] (.bool (within n lo hi)) := by
 refine ctr_of_wp hmix Tryz.func41 m41 rfl ?_
 unfold v41
 simp -failIfUnchanged (disch := first|omega|(simp [wcs_len]<;>omega)|fail) only [go_sem,simprocAttr]
 refine wcall (c8 _ _ _) ?_
 simp -failIfUnchanged (disch := first|omega|(simp [wcs_len]<;>omega)|fail) only [go_sem,simprocAttr]
theorem c19 (b : Bk) (n : Int) : Ctr Tryz.prog 19 [KB b, .int n] (.bool (within n 0 b.cords.length)) := by
 refine ctr_of_wp hmix Tryz.func19 m19 rfl ?_
 unfold v19
 simp -failIfUnchanged (disch := first|omega|(simp [wcs_len]<;>omega)|fail) only [go_sem,simprocAttr]
 refine wcall (c41 _ _ _) ?_
 simp -failIfUnchanged (disch := first|omega|(simp [wcs_len]<;>omega)|fail) only [go_sem,simprocAttr]
theorem c20 (b : Bk) (n : Int) : Ctr Tryz.prog 20 [KB b, .int n] (.bool (within n 0 (w64 (b.places - 1)))) := by
 refine ctr_of_wp hmix Tryz.func20 m20 rfl ?_
 unfold v20
 simp -failIfUnchanged (disch := first|omega|(simp [wcs_len]<;>omega)|fail) only [go_sem,simprocAttr]
 refine wcall (c41 _ _ _) ?_
 simp -failIfUnchanged (disch := first|omega|(simp [wcs_len]<;>omega)|fail) only [go_sem,simprocAttr]
theorem badS_iff (b : Bk) (s : Sp) : badS b s = false ↔ within s.hi 0 (b.base - 1) = true ∧ within s.lo 0 s.hi = true := by
 simp only [badS, within, Bool.or_eq_false_iff, Bool.not_eq_false', decide_eq_true_eq, decide_eq_false_iff_not]
 omega
theorem c42 (b : Bk) (l : List Sp) (hb : 2 ≤ b.base ∧ b.base ≤ 10) (hl : l.length < 4294967296) : Ctr Tryz.prog 42 [KB b, SS l] (.bool (isCordB b l)) := by
 refine ctr_of_wp hmix Tryz.func42 m42 rfl ?_
 unfold v42
 simp -failIfUnchanged (disch := first|omega|(simp [wcs_len]<;>omega)|fail) only [go_sem,simprocAttr]
 refine wcond_dec (fun h => ?_) (fun h => ?_)
 ·simp -failIfUnchanged (disch := first|omega|(simp [wcs_len]<;>omega)|fail) only [go_sem,simprocAttr]
  simp [isCordB, h]
 ·simp only [Decidable.not_not] at h
  simp -failIfUnchanged (disch := first|omega|(simp [wcs_len]<;>omega)|fail) only [go_sem,simprocAttr]
  refine wp_loop' Nat (fun i => ⟨[(1, SS l), (2, .ptr 2 0), (5, .int i)], [(2, ⟨[.int b.base, .int b.places, .sl 1 (b.cords.map SS) .sh, SS b.top], false⟩)], [], none⟩) (fun i => i ≤ l.length ∧ ∀ x ∈ l.take i, badS b x = false) (fun i => l.length - i) 0 (by simp) (by simp -failIfUnchanged (disch := first|omega|(simp [wcs_len]<;>omega)|fail) only [go_sem,simprocAttr]; try rfl) ?_
  rintro i ⟨hi, hpre⟩
  simp -failIfUnchanged (disch := first|omega|(simp [wcs_len]<;>omega)|fail) only [go_sem,simprocAttr]
  refine wcond_dec (fun h2 => ?_) (fun h2 => ?_)
  ·have hlt : i < l.length := by omega
   simp -failIfUnchanged (disch := first|omega|(simp [wcs_len]<;>omega)|fail) only [go_sem,simprocAttr]
   refine wcall (c41 _ _ _) ?_
   simp -failIfUnchanged (disch := first|omega|(simp [wcs_len]<;>omega)|fail) only [go_sem,simprocAttr]
   have no : badS b (l[i]?.getD default) = true → isCordB b l = false := by
    intro hx
    have : l.any (badS b) = true := List.any_eq_true.2 ⟨_, mem_getD hlt, hx⟩
    simp [isCordB, this]
   refine WGd_bool (fun h3 => ?_) (fun h3 => ?_)
   ·simp -failIfUnchanged (disch := first|omega|(simp [wcs_len]<;>omega)|fail) only [go_sem,simprocAttr, h3]
    refine wcall (c41 _ _ _) ?_
    simp -failIfUnchanged (disch := first|omega|(simp [wcs_len]<;>omega)|fail) only [go_sem,simprocAttr]
    refine wcond_bool (fun h4 => ?_) (fun h4 => ?_)
    ·simp -failIfUnchanged (disch := first|omega|(simp [wcs_len]<;>omega)|fail) only [go_sem,simprocAttr]
     rw [no]
     cases hx : badS b (l[i]?.getD default) with
     | true => rfl
     | false => rw [badS_iff] at hx; simp [hx.2] at h4
    ·simp -failIfUnchanged (disch := first|omega|(simp [wcs_len]<;>omega)|fail) only [go_sem,simprocAttr]
     have hx : badS b (l[i]?.getD default) = false := by
      rw [badS_iff]
      simpa using And.intro h3 h4
     refine ⟨i + 1, ⟨by omega, take_succ_all hlt hpre hx⟩, by dsimp only; omega, ?_⟩
     simp -failIfUnchanged (disch := first|omega|(simp [wcs_len]<;>omega)|fail) only [go_sem,simprocAttr]
     try simp
   ·simp -failIfUnchanged (disch := first|omega|(simp [wcs_len]<;>omega)|fail) only [go_sem,simprocAttr, h3]
    rw [no]
    cases hx : badS b (l[i]?.getD default) with
    | true => rfl
    | false => rw [badS_iff] at hx; simp [hx.1] at h3
  ·simp -failIfUnchanged (disch := first|omega|(simp [wcs_len]<;>omega)|fail) only [go_sem,simprocAttr]
   have e : i = l.length := by omega
   rw [e, List.take_length] at hpre
   have : l.any (badS b) = false := List.any_eq_false.2 fun x hx => by simp [hpre x hx]
   simp [isCordB, this, h]
theorem c7 (b : Bk) (hs : Small b) : Ctr Tryz.prog 7 [KB b] (.int (if checkB b then 0 else 110)) := by
 refine ctr_of_wp hmix Tryz.func7 m7 rfl ?_
 unfold v7
 simp -failIfUnchanged (disch := first|omega|(simp [wcs_len]<;>omega)|fail) only [go_sem,simprocAttr]
 refine wcall (c41 _ _ _) ?_
 simp -failIfUnchanged (disch := first|omega|(simp [wcs_len]<;>omega)|fail) only [go_sem,simprocAttr]
 refine WGd_bool (fun h1 => ?_) (fun h1 => ?_)
 ·simp -failIfUnchanged (disch := first|omega|(simp [wcs_len]<;>omega)|fail) only [go_sem,simprocAttr, h1]
  have hb : 2 ≤ b.base ∧ b.base ≤ 10 := by simpa [within] using h1
  refine wcall (c41 _ _ _) ?_
  simp -failIfUnchanged (disch := first|omega|(simp [wcs_len]<;>omega)|fail) only [go_sem,simprocAttr]
  refine WGd_bool (fun h2 => ?_) (fun h2 => ?_)
  ·simp -failIfUnchanged (disch := first|omega|(simp [wcs_len]<;>omega)|fail) only [go_sem,simprocAttr, h2]
   refine WGd_bool (fun h3 => ?_) (fun h3 => ?_)
   ·simp -failIfUnchanged (disch := first|omega|(simp [wcs_len]<;>omega)|fail) only [go_sem,simprocAttr, h3]
    refine wcall (c42 b b.top hb hs.top) ?_
    simp -failIfUnchanged (disch := first|omega|(simp [wcs_len]<;>omega)|fail) only [go_sem,simprocAttr]
    refine wcond_bool (fun h4 => ?_) (fun h4 => ?_)
    ·simp -failIfUnchanged (disch := first|omega|(simp [wcs_len]<;>omega)|fail) only [go_sem,simprocAttr]
     simp_all [checkB]
    ·simp -failIfUnchanged (disch := first|omega|(simp [wcs_len]<;>omega)|fail) only [go_sem,simprocAttr]
     refine wp_loop' Nat (fun i => ⟨[(1, .ptr 1 0), (3, .int i)], [(1, ⟨[.int b.base, .int b.places, .sl 1 (b.cords.map SS) .sh, SS b.top], false⟩)], [], none⟩) (fun i => i ≤ b.cords.length ∧ ∀ x ∈ b.cords.take i, (!isCordB b x) = false) (fun i => b.cords.length - i) 0 (by simp) (by simp -failIfUnchanged (disch := first|omega|(simp [wcs_len]<;>omega)|fail) only [go_sem,simprocAttr]; try rfl) ?_
     rintro i ⟨hi, hpre⟩
     have hcl := hs.cords
     simp -failIfUnchanged (disch := first|omega|(simp [wcs_len]<;>omega)|fail) only [go_sem,simprocAttr]
     refine wcond_dec (fun h5 => ?_) (fun h5 => ?_)
     ·have hlt : i < b.cords.length := by omega
      simp -failIfUnchanged (disch := first|omega|(simp [wcs_len]<;>omega)|fail) only [go_sem,simprocAttr]
      refine wcall (c42 b _ hb (hs.each _ (mem_getD hlt))) ?_
      simp -failIfUnchanged (disch := first|omega|(simp [wcs_len]<;>omega)|fail) only [go_sem,simprocAttr]
      refine wcond_bool (fun h6 => ?_) (fun h6 => ?_)
      ·simp -failIfUnchanged (disch := first|omega|(simp [wcs_len]<;>omega)|fail) only [go_sem,simprocAttr]
       have : b.cords.any (fun l => !isCordB b l) = true := List.any_eq_true.2 ⟨_, mem_getD hlt, h6⟩
       have hc : checkB b = false := by
        simp only [checkB, this]
        simp
       simp [hc]
      ·simp -failIfUnchanged (disch := first|omega|(simp [wcs_len]<;>omega)|fail) only [go_sem,simprocAttr]
       refine ⟨i + 1, ⟨by omega, take_succ_all (p := fun x => !isCordB b x) hlt hpre h6⟩, by dsimp only; omega, ?_⟩
       simp -failIfUnchanged (disch := first|omega|(simp [wcs_len]<;>omega)|fail) only [go_sem,simprocAttr]
       try simp
     ·simp -failIfUnchanged (disch := first|omega|(simp [wcs_len]<;>omega)|fail) only [go_sem,simprocAttr]
      have e : i = b.cords.length := by omega
      rw [e, List.take_length] at hpre
      have : b.cords.any (fun l => !isCordB b l) = false := List.any_eq_false.2 fun x hx => by simp [hpre x hx]
      have hc : checkB b = true := by
       simp only [checkB, this]
       simp at h1 h2 h3 h4
       simp [h1, h2, h3, h4]
      simp [hc]
   ·simp -failIfUnchanged (disch := first|omega|(simp [wcs_len]<;>omega)|fail) only [go_sem,simprocAttr, h3]
    simp_all [checkB]
    intro hc
    omega
  ·simp -failIfUnchanged (disch := first|omega|(simp [wcs_len]<;>omega)|fail) only [go_sem,simprocAttr, h2]
   simp_all [checkB]
 ·simp -failIfUnchanged (disch := first|omega|(simp [wcs_len]<;>omega)|fail) only [go_sem,simprocAttr, h1]
  simp_all [checkB]
def allN (b : Bk) : Nat := b.base.toNat ^ b.places.toNat
theorem pow_le {B P : Nat} (hB : B ≤ 10) (hP : P ≤ 4) : B ^ P ≤ 10000 :=
 Nat.le_trans (Nat.pow_le_pow_left hB P) (Nat.le_trans (Nat.pow_le_pow_right (by omega) hP) (by decide))
theorem c11 (b : Bk) (hv : Val b) : Ctr Tryz.prog 11 [KB b] (.int (allN b)) := by
 refine ctr_of_wp hmix Tryz.func11 m11 rfl ?_
 unfold v11
 obtain ⟨hb1, hb2⟩ := hv.hb
 obtain ⟨hp1, hp2⟩ := hv.hp
 simp -failIfUnchanged (disch := first|omega|(simp [wcs_len]<;>omega)|fail) only [go_sem,simprocAttr]
 refine wp_loop' Nat (fun i => ⟨[(1, .ptr 1 0), (3, .int (b.base.toNat ^ i : Nat)), (4, .int i)], [(1, ⟨[.int b.base, .int b.places, .sl 1 (b.cords.map SS) .sh, SS b.top], false⟩)], [], none⟩) (fun i => i ≤ b.places.toNat) (fun i => b.places.toNat - i) 0 (by simp) (by simp -failIfUnchanged (disch := first|omega|(simp [wcs_len]<;>omega)|fail) only [go_sem,simprocAttr]; try simp) ?_
 rintro i hi
 simp -failIfUnchanged (disch := first|omega|(simp [wcs_len]<;>omega)|fail) only [go_sem,simprocAttr]
 refine wcond_dec (fun h => ?_) (fun h => ?_)
 ·have e : ((b.base.toNat ^ i : Nat) : Int) * b.base = ((b.base.toNat ^ (i + 1) : Nat) : Int) := by
   rw [Nat.pow_succ, Int.natCast_mul, Int.toNat_of_nonneg (by omega : 0 ≤ b.base)]
  have hle := pow_le (B := b.base.toNat) (P := i + 1) (by omega) (by omega)
  simp -failIfUnchanged (disch := first|omega|(simp [wcs_len]<;>omega)|fail) only [go_sem,simprocAttr, e]
  refine ⟨i + 1, by omega, by dsimp only; omega, ?_⟩
  simp -failIfUnchanged (disch := first|omega|(simp [wcs_len]<;>omega)|fail) only [go_sem,simprocAttr]
  try simp
 ·simp -failIfUnchanged (disch := first|omega|(simp [wcs_len]<;>omega)|fail) only [go_sem,simprocAttr]
  have e : i = b.places.toNat := by omega
  rw [e]
  rfl
end Go.Proofs.YtpangdaijhiohaaGreatDoor.Kn

set_option linter.unusedSimpArgs false
set_option linter.unusedVariables false
set_option linter.unnecessarySimpa false
namespace Go.Proofs.YtpangdaijhiohaaGreatDoor.Kn
open Go Go.V
def cordAt (b : Bk) (n : Nat) : List Sp := if n = b.cords.length then b.top else b.cords[n]?.getD default
theorem c26 (b : Bk) (n : Nat) (hn : n ≤ b.cords.length) : Ctr Tryz.prog 26 [KB b, .int n] (SS (cordAt b n)) := by
 refine ctr_of_wp hmix Tryz.func26 m26 rfl ?_
 unfold v26
 simp -failIfUnchanged (disch := first|omega|(simp [wcs_len]<;>omega)|fail) only [go_sem,simprocAttr]
 refine wcond_dec (fun h => ?_) (fun h => ?_)
 ·simp -failIfUnchanged (disch := first|omega|(simp [wcs_len]<;>omega)|fail) only [go_sem,simprocAttr]
  have e : n = b.cords.length := by omega
  simp [cordAt, e]
 ·have e : ¬ n = b.cords.length := by omega
  have hlt : n < b.cords.length := by omega
  simp -failIfUnchanged (disch := first|omega|(simp [wcs_len]<;>omega)|fail) only [go_sem,simprocAttr]
  simp [cordAt, e]
def fitsL (l : List Sp) (ds : List Int) : Bool := (List.range l.length).all fun i => within (ds[i]?.getD default) (l[i]?.getD default).lo (l[i]?.getD default).hi
end Go.Proofs.YtpangdaijhiohaaGreatDoor.Kn

set_option linter.unusedSimpArgs false
set_option linter.unusedVariables false
set_option linter.unnecessarySimpa false
namespace Go.Proofs.YtpangdaijhiohaaGreatDoor.Kn
open Go Go.V
theorem zeros_ints (n : Nat) : zeros [.int 0] n = (List.replicate n (0 : Int)).map .int := by
 induction n with
 | zero => rfl
 | succ n ih => simp only [zeros, List.replicate_succ, List.map_cons, ih]; rfl
theorem setAt_ints {xs : List Int} {i : Nat} {x : Int} (h : i < xs.length) : setAt (xs.map .int) i [.int x] = (xs.set i x).map .int := by
 induction xs generalizing i with
 | nil => simp at h
 | cons w l ih =>
  cases i with
  | zero => rfl
  | succ i =>
   simp only [List.map_cons, setAt, List.set_cons_succ]
   rw [ih (by simpa using h)]
theorem map_ints {xs : List Int} {hp : List (Nat × BX)} : (xs.map AV.int).map (strip hp) = xs.map .int := by
 rw [List.map_map]
 rfl
theorem bids_ints {xs : List Int} : bids (xs.map AV.int) = [] := by
 induction xs with
 | nil => rfl
 | cons w l ih => simp only [List.map_cons, bids, AV.bid, AV.bid1, ih, List.append_nil]
theorem scopes_ints {τ : AS} {xs : List Int} : scopes τ (xs.map AV.int) = True := by
 induction xs with
 | nil => rfl
 | cons w l ih => simp only [List.map_cons, scopes, inScope, ih, and_self]
attribute [go_sem] zeros_ints setAt_ints map_ints bids_ints scopes_ints
def tieN (B : Nat) : Nat → Nat → List Int
 | 0, _ => []
 | P + 1, n => tieN B P (n / B) ++ [((n % B : Nat) : Int)]
theorem tieN_len (B : Nat) : ∀ P n, (tieN B P n).length = P
 | 0, _ => rfl
 | P + 1, n => by simp [tieN, tieN_len B P]
end Go.Proofs.YtpangdaijhiohaaGreatDoor.Kn

set_option linter.unusedSimpArgs false
set_option linter.unusedVariables false
set_option linter.unnecessarySimpa false
namespace Go.Proofs.YtpangdaijhiohaaGreatDoor.Kn
open Go Go.V
theorem allN_le {b : Bk} (hv : Val b) : allN b ≤ 10000 := by
 obtain ⟨hb1, hb2⟩ := hv.hb
 obtain ⟨hp1, hp2⟩ := hv.hp
 exact pow_le (by omega) (by omega)
def isN (b : Bk) (cord : Nat) (freely : Bool) (n : Nat) : Bool := freely || fitsL (cordAt b cord) (tieN b.base.toNat b.places.toNat n)
theorem cordAt_val {b : Bk} (hv : Val b) {n : Nat} (hn : n ≤ b.cords.length) : ((cordAt b n).length : Int) = b.places ∧ ∀ s ∈ cordAt b n, 0 ≤ s.lo ∧ s.lo ≤ s.hi ∧ s.hi < b.base := by
 unfold cordAt
 split
 ·exact hv.top
 ·have hlt : n < b.cords.length := by omega
  exact hv.cord _ (mem_getD hlt)
end Go.Proofs.YtpangdaijhiohaaGreatDoor.Kn

set_option linter.unusedSimpArgs false
set_option linter.unusedVariables false
set_option linter.unnecessarySimpa false
namespace Go.Proofs.YtpangdaijhiohaaGreatDoor.Kn
open Go Go.V
end Go.Proofs.YtpangdaijhiohaaGreatDoor.Kn

set_option linter.unusedSimpArgs false
set_option linter.unusedVariables false
set_option linter.unnecessarySimpa false
namespace Go.Proofs.YtpangdaijhiohaaGreatDoor.Kn
open Go Go.V
end Go.Proofs.YtpangdaijhiohaaGreatDoor.Kn

set_option linter.unusedSimpArgs false
set_option linter.unusedVariables false
set_option linter.unnecessarySimpa false
namespace Go.Proofs.YtpangdaijhiohaaGreatDoor.Kn
open Go Go.V
def spanL (l : List Int) (m : Nat) : Sp := (l.take m).foldl (fun s x => ⟨min s.lo x, max s.hi x⟩) ⟨l[0]?.getD default, l[0]?.getD default⟩
theorem ag35 : aggOf Tryz.prog 35 = some true := by kernel_rfl
theorem sz35 : szOf Tryz.prog 35 = some 2 := by kernel_rfl
attribute [go_sem] ag35 sz35
end Go.Proofs.YtpangdaijhiohaaGreatDoor.Kn

set_option linter.unusedSimpArgs false
set_option linter.unusedVariables false
set_option linter.unnecessarySimpa false
namespace Go.Proofs.YtpangdaijhiohaaGreatDoor.Kn
open Go Go.V
def sumsN (b : Bk) (freely : Bool) : Nat → List Nat → List (List Nat)
 | 0, first => if first.sum < allN b && (freely || fitsL b.top (tieN b.base.toNat b.places.toNat first.sum)) then [first ++ [first.sum]] else []
 | k + 1, first => ((List.range (allN b)).filter (isN b first.length freely)).flatMap fun n => sumsN b freely k (first ++ [n])
theorem sumsN_mem (b : Bk) (freely : Bool) : ∀ (k : Nat) (first l : List Nat), (∀ x ∈ first, x < allN b) → l ∈ sumsN b freely k first → l.length = first.length + k + 1 ∧ ∀ x ∈ l, x < allN b
 | 0, first, l, hf, hl => by
  unfold sumsN at hl
  split at hl
  ·rename_i h
   simp only [Bool.and_eq_true, decide_eq_true_eq] at h
   simp only [List.mem_singleton] at hl
   subst hl
   refine ⟨by simp, fun x hx => ?_⟩
   rcases List.mem_append.1 hx with hx | hx
   ·exact hf x hx
   ·simp at hx; subst hx; exact h.1
  ·simp at hl
 | k + 1, first, l, hf, hl => by
  unfold sumsN at hl
  obtain ⟨n, hn, hl⟩ := List.mem_flatMap.1 hl
  have hn2 : n < allN b := List.mem_range.1 (List.mem_filter.1 hn).1
  have := sumsN_mem b freely k (first ++ [n]) l (fun x hx => by
   rcases List.mem_append.1 hx with hx | hx
   ·exact hf x hx
   ·simp at hx; subst hx; exact hn2) hl
  refine ⟨by rw [this.1]; simp; omega, this.2⟩
end Go.Proofs.YtpangdaijhiohaaGreatDoor.Kn

set_option linter.unusedSimpArgs false
set_option linter.unusedVariables false
set_option linter.unnecessarySimpa false
namespace Go.Proofs.YtpangdaijhiohaaGreatDoor.Kn
open Go Go.V
abbrev allNs (b : Bk) : List (List Nat) := sumsN b false b.cords.length []
theorem allNs_mem {b : Bk} {l : List Nat} (h : l ∈ allNs b) : l.length = b.cords.length + 1 ∧ ∀ x ∈ l, x < allN b := by
 have := sumsN_mem b false b.cords.length [] l (by simp) h
 simpa using this
def colS (b : Bk) (c : Nat) (m : Nat) : List Int := ((allNs b).take m).map fun l => ((l[c]?.getD default : Nat) : Int)
end Go.Proofs.YtpangdaijhiohaaGreatDoor.Kn

set_option linter.unusedSimpArgs false
set_option linter.unusedVariables false
set_option linter.unnecessarySimpa false
namespace Go.Proofs.YtpangdaijhiohaaGreatDoor.Kn
open Go Go.V
end Go.Proofs.YtpangdaijhiohaaGreatDoor.Kn

set_option linter.unusedSimpArgs false
set_option linter.unusedVariables false
set_option linter.unnecessarySimpa false
namespace Go.Proofs.YtpangdaijhiohaaGreatDoor.Kn
open Go Go.V
abbrev capsD (b : Bk) (m m2 : AV) (cord place : Nat) : List AV :=
 [.ref 6 [LM b m m2] 0 0, .ref 1 [.agg [.int cord]] 0 0, .ref 1 [.agg [.int place]] 0 0]
theorem c108 (b : Bk) (g g2 : Nat) (caps caps2 : List AV) (cord place : Nat) : Ctr Tryz.prog 108 [LM b (.clo g [] caps) (.clo g2 [] caps2), .int cord, .int place] (.clo 142 [] (capsD b (.clo g [] caps) (.clo g2 [] caps2) cord place)) := by
 refine ctr_of_wp hmix Tryz.func108 m108 rfl ?_
 unfold v108
 simp -failIfUnchanged (disch := first|omega|(simp [wcs_len]<;>omega)|fail) only [go_sem,simprocAttr]
def manyD (b : Bk) (may : Nat → Nat → Nat → Bool) (carry : Nat → Nat → Bool) (cord place d : Nat) : Int := (solveL b (onlyF may cord place d) carry).r
def spanD (b : Bk) (may : Nat → Nat → Nat → Bool) (carry : Nat → Nat → Bool) (cord place : Nat) (m : Nat) : Sp :=
 (List.range m).foldl (fun s d => if 0 < manyD b may carry cord place d then ⟨min s.lo d, max s.hi d⟩ else s) ⟨b.base, 0⟩
theorem ag42b : aggOf Tryz.prog 35 = some true := by kernel_rfl
theorem sz42b : szOf Tryz.prog 35 = some 2 := by kernel_rfl
attribute [go_sem] ag42b sz42b
theorem c62 (b : Bk) (hv : Val b) (g g2 : Nat) (caps caps2 : List AV) (may : Nat → Nat → Nat → Bool) (carry : Nat → Nat → Bool)
  (hmay : ∀ c p d : Nat, c ≤ b.cords.length → p < b.places.toNat → d < b.base.toNat → Ctr Tryz.prog g ([.int c, .int p, .int d] ++ caps) (.bool (may c p d)))
  (hcarry : ∀ p n : Nat, p < b.places.toNat → n ≤ 50 → Ctr Tryz.prog g2 ([.int p, .int n] ++ caps2) (.bool (carry p n))) (cord place : Nat) :
  Ctr Tryz.prog 62 [LM b (.clo g [] caps) (.clo g2 [] caps2), .int cord, .int place] (SP (spanD b may carry cord place b.base.toNat)) := by
 refine ctr_of_wp hmix Tryz.func62 m62 rfl ?_
 unfold v62
 simp -failIfUnchanged (disch := first|omega|(simp [wcs_len]<;>omega)|fail) only [go_sem,simprocAttr]
 refine wcall (c108 b g g2 caps caps2 cord place) ?_
 simp -failIfUnchanged (disch := first|omega|(simp [wcs_len]<;>omega)|fail) only [go_sem,simprocAttr]
 refine wp_range' ?_
 simp -failIfUnchanged (disch := first|omega|(simp [wcs_len]<;>omega)|fail) only [go_sem,simprocAttr]
 refine wrange fun l T hT => ?_
 refine csem_of_wp hmix Tryz.func142 m142 rfl rfl ?_
 unfold v142
 simp -failIfUnchanged (disch := first|omega|(simp [wcs_len]<;>omega)|fail) only [go_sem,simprocAttr]
 obtain ⟨hb1, hb2⟩ := hv.hb
 have hB : ((b.base.toNat : Nat) : Int) = b.base := by omega
 refine wp_loopX (Nat × Sp) (fun x => ⟨[(0, .yld l), (1, .ref 6 [LM b (.clo g [] caps) (.clo g2 [] caps2)] 0 0), (2, .ref 1 [.agg [.int cord]] 0 0), (3, .ref 1 [.agg [.int place]] 0 0), (9, .int b.base), (10, .int x.1)], [(7, ⟨[.int x.2.lo, .int x.2.hi], false⟩), (6, ⟨[.int 0, .int 0], false⟩)], [], none⟩)
  (fun x => x.1 ≤ b.base.toNat ∧ x.2 = spanD b may carry cord place x.1) (fun x => b.base.toNat - x.1) (0, spanD b may carry cord place 0) (by simp) (by simp -failIfUnchanged (disch := first|omega|(simp [wcs_len]<;>omega)|fail) only [go_sem,simprocAttr]; try simp [spanD]) (fun x => by simp -failIfUnchanged (disch := first|omega|(simp [wcs_len]<;>omega)|fail) only [go_sem,simprocAttr]) ?_
 rintro ⟨d, s⟩ ⟨hd, hs⟩
 simp only at hd hs
 have hsucc : spanD b may carry cord place (d + 1) = if 0 < manyD b may carry cord place d then ⟨min s.lo d, max s.hi d⟩ else s := by
  rw [hs, spanD, List.range_succ, List.foldl_append]
  rfl
 simp -failIfUnchanged (disch := first|omega|(simp [wcs_len]<;>omega)|fail) only [go_sem,simprocAttr]
 refine wcond_dec (fun h => ?_) (fun h => ?_)
 ·simp -failIfUnchanged (disch := first|omega|(simp [wcs_len]<;>omega)|fail) only [go_sem,simprocAttr]
  refine wcall (c64 b g g2 caps caps2 cord place d) ?_
  simp -failIfUnchanged (disch := first|omega|(simp [wcs_len]<;>omega)|fail) only [go_sem,simprocAttr]
  refine wcall (c73 b hv 109 g2 _ caps2 (onlyF may cord place d) carry (fun c p d' h1 h2 h3 => c109 g caps may cord place d c p d' (hmay c p d' h1 h2 h3)) hcarry) ?_
  simp -failIfUnchanged (disch := first|omega|(simp [wcs_len]<;>omega)|fail) only [go_sem,simprocAttr]
  refine WGd_bool (fun h1 => ?_) (fun h1 => ?_)
  ·simp -failIfUnchanged (disch := first|omega|(simp [wcs_len]<;>omega)|fail) only [go_sem,simprocAttr, h1]
   refine wyield (hT _ _ _ _ _ rfl ?_)
   simp -failIfUnchanged (disch := first|omega|(simp [wcs_len]<;>omega)|fail) only [go_sem,simprocAttr, h1]
   have h1' : 0 < manyD b may carry cord place d := by simpa [manyD] using h1
   refine ⟨(d + 1, ⟨min s.lo d, max s.hi d⟩), ⟨by dsimp only; omega, by rw [hsucc, if_pos h1']⟩, by dsimp only; omega, ?_⟩
   simp -failIfUnchanged (disch := first|omega|(simp [wcs_len]<;>omega)|fail) only [go_sem,simprocAttr]
   try simp
  ·simp -failIfUnchanged (disch := first|omega|(simp [wcs_len]<;>omega)|fail) only [go_sem,simprocAttr, h1]
   have h1' : ¬ 0 < manyD b may carry cord place d := by simpa [manyD] using h1
   refine ⟨(d + 1, s), ⟨by dsimp only; omega, by rw [hsucc, if_neg h1']⟩, by dsimp only; omega, ?_⟩
   simp -failIfUnchanged (disch := first|omega|(simp [wcs_len]<;>omega)|fail) only [go_sem,simprocAttr]
   try simp
 ·simp -failIfUnchanged (disch := first|omega|(simp [wcs_len]<;>omega)|fail) only [go_sem,simprocAttr]
  have ed : d = b.base.toNat := by omega
  rw [hs, ed]
end Go.Proofs.YtpangdaijhiohaaGreatDoor.Kn

set_option linter.unusedSimpArgs false
set_option linter.unusedVariables false
set_option linter.unnecessarySimpa false
namespace Go.Proofs.YtpangdaijhiohaaGreatDoor.Kn
open Go Go.V
abbrev LM0 : AV := .agg [.int 0, .int 0, .sl 1 [] .sh, .sl 2 [] .sh, .und, .und]
def knownR (b : Bk) (is : Bool) : AV :=
 if checkB b then
  if is then
   if (solveL b yes3 yes2).r = 0 then .tup [LM0, .int 3] else .tup [LM b (.clo 117 [] []) (.clo 118 [] []), .int 0]
  else .tup [LM0, .int 1]
 else .tup [LM0, .int 110]
theorem c60g (b : Bk) (hs : Small b) (is : Bool) : Ctr Tryz.prog 60 [KB b, .bool is] (knownR b is) := by
 refine ctr_of_wp hmix Tryz.func60 m60 rfl ?_
 unfold v60 knownR
 simp -failIfUnchanged (disch := first|omega|(simp [wcs_len]<;>omega)|fail) only [go_sem,simprocAttr]
 refine wcall (c48 b hs is) ?_
 cases hc : checkB b with
 | false => simp -failIfUnchanged (disch := first|omega|(simp [wcs_len]<;>omega)|fail) only [go_sem,simprocAttr]
 | true =>
  cases is with
  | false => simp -failIfUnchanged (disch := first|omega|(simp [wcs_len]<;>omega)|fail) only [go_sem,simprocAttr]
  | true =>
   simp -failIfUnchanged (disch := first|omega|(simp [wcs_len]<;>omega)|fail) only [go_sem,simprocAttr]
   refine wcall (c72 b) ?_
   simp -failIfUnchanged (disch := first|omega|(simp [wcs_len]<;>omega)|fail) only [go_sem,simprocAttr]
   refine wcall (c73 b (val_of_check hc) 117 118 [] [] yes3 yes2 (fun c p d _ _ _ => c117 c p d) (fun p n _ _ => c118 p n)) ?_
   simp -failIfUnchanged (disch := first|omega|(simp [wcs_len]<;>omega)|fail) only [go_sem,simprocAttr]
   refine wcond_dec (fun h => ?_) (fun h => ?_)
   ·simp -failIfUnchanged (disch := first|omega|(simp [wcs_len]<;>omega)|fail) only [go_sem,simprocAttr, h]
   ·simp -failIfUnchanged (disch := first|omega|(simp [wcs_len]<;>omega)|fail) only [go_sem,simprocAttr, h]
def ansR (b : Bk) (is : Bool) (z v : AV) : AV :=
 if checkB b then
  if is then
   if (solveL b yes3 yes2).r = 0 then .tup [z, .int 3] else .tup [v, .int 0]
  else .tup [z, .int 1]
 else .tup [z, .int 110]
end Go.Proofs.YtpangdaijhiohaaGreatDoor.Kn

set_option linter.unusedSimpArgs false
set_option linter.unusedVariables false
set_option linter.unnecessarySimpa false
namespace Go.Proofs.YtpangdaijhiohaaGreatDoor.Kn
open Go Go.V
theorem c65 (s : Sp) : Ctr Tryz.prog 65 [SP s] (.int s.lo) := by
 refine ctr_of_wp hmix Tryz.func65 m65 rfl ?_
 unfold v65
 simp -failIfUnchanged (disch := first|omega|(simp [wcs_len]<;>omega)|fail) only [go_sem,simprocAttr]
theorem c66 (s : Sp) : Ctr Tryz.prog 66 [SP s] (.int s.hi) := by
 refine ctr_of_wp hmix Tryz.func66 m66 rfl ?_
 unfold v66
 simp -failIfUnchanged (disch := first|omega|(simp [wcs_len]<;>omega)|fail) only [go_sem,simprocAttr]
theorem spanD_bound (b : Bk) (hb : 2 ≤ b.base) (may : Nat → Nat → Nat → Bool) (carry : Nat → Nat → Bool) (cord place : Nat) : ∀ m, m ≤ b.base.toNat →
  0 ≤ (spanD b may carry cord place m).lo ∧ (spanD b may carry cord place m).lo ≤ b.base ∧ 0 ≤ (spanD b may carry cord place m).hi ∧ (spanD b may carry cord place m).hi ≤ b.base
 | 0, _ => by simp [spanD]; omega
 | m + 1, h => by
  have ih := spanD_bound b hb may carry cord place m (by omega)
  have e : spanD b may carry cord place (m + 1) = if 0 < manyD b may carry cord place m then ⟨min (spanD b may carry cord place m).lo m, max (spanD b may carry cord place m).hi m⟩ else spanD b may carry cord place m := by
   unfold spanD
   rw [List.range_succ, List.foldl_append]
   rfl
  rw [e]
  split
  ·dsimp only; omega
  ·exact ih
def endF (b : Bk) (carry : Nat → Nat → Bool) (cord : Nat) (sel : Sp → Int) : Nat → Nat → (Nat → Nat → Nat → Bool) → Int → Int
 | _, 0, _, n => n
 | p, k + 1, may, n => endF b carry cord sel (p + 1) k (onlyF may cord p (sel (spanD b may carry cord p b.base.toNat)).toNat) (numL b.base [n, sel (spanD b may carry cord p b.base.toNat)])
theorem c61 (b : Bk) (hv : Val b) (g g2 : Nat) (caps caps2 : List AV) (may : Nat → Nat → Nat → Bool) (carry : Nat → Nat → Bool)
  (hmay : ∀ c p d : Nat, c ≤ b.cords.length → p < b.places.toNat → d < b.base.toNat → Ctr Tryz.prog g ([.int c, .int p, .int d] ++ caps) (.bool (may c p d)))
  (hcarry : ∀ p n : Nat, p < b.places.toNat → n ≤ 50 → Ctr Tryz.prog g2 ([.int p, .int n] ++ caps2) (.bool (carry p n))) (cord : Nat)
  (gs : Nat) (sel : Sp → Int) (hsel : ∀ s : Sp, Ctr Tryz.prog gs [SP s] (.int (sel s))) (hsel2 : ∀ s : Sp, sel s = s.lo ∨ sel s = s.hi) :
  Ctr Tryz.prog 61 [.clo gs [] [], .ref 6 [LM b (.clo g [] caps) (.clo g2 [] caps2)] 0 0, .ref 4 [KB b] 0 0, .ref 1 [.agg [.int cord]] 0 0] (.int (endF b carry cord sel 0 b.places.toNat may 0)) := by
 refine ctr_of_wp hmix Tryz.func61 m61 rfl ?_
 unfold v61
 obtain ⟨hb1, hb2⟩ := hv.hb
 obtain ⟨hp1, hp2⟩ := hv.hp
 obtain ⟨PL, hPL⟩ : ∃ p : Nat, b.places = p := ⟨b.places.toNat, by omega⟩
 have hPn : b.places.toNat = PL := by omega
 simp -failIfUnchanged (disch := first|omega|(simp [wcs_len]<;>omega)|fail) only [go_sem,simprocAttr]
 refine wp_loop' (Nat × Nat × List AV × (Nat → Nat → Nat → Bool) × Int) (fun x => ⟨[(0, .clo gs [] []), (2, .ref 4 [KB b] 0 0), (3, .ref 1 [.agg [.int cord]] 0 0), (6, .int x.2.2.2.2), (7, .ptr 7 0), (12, .int b.places), (13, .int x.1)],
  [(7, ⟨[.int b.base, .int b.places, .sl 1 (b.cords.map SS) .sh, SS b.top, .clo x.2.1 [] x.2.2.1, .clo g2 [] caps2], false⟩)], [], none⟩)
  (fun x => x.1 ≤ PL ∧ (∀ c p d : Nat, c ≤ b.cords.length → p < b.places.toNat → d < b.base.toNat → Ctr Tryz.prog x.2.1 ([.int c, .int p, .int d] ++ x.2.2.1) (.bool (x.2.2.2.1 c p d))) ∧ endF b carry cord sel x.1 (PL - x.1) x.2.2.2.1 x.2.2.2.2 = endF b carry cord sel 0 PL may 0)
  (fun x => PL - x.1) (0, g, caps, may, 0) ⟨by simp, hmay, by simp⟩ (by simp -failIfUnchanged (disch := first|omega|(simp [wcs_len]<;>omega)|fail) only [go_sem,simprocAttr]; try simp) ?_
 rintro ⟨p, g', caps', may', n⟩ ⟨hp, hm, he⟩
 dsimp only at hp hm he ⊢
 simp -failIfUnchanged (disch := first|omega|(simp [wcs_len]<;>omega)|fail) only [go_sem,simprocAttr]
 refine wcond_dec (fun h => ?_) (fun h => ?_)
 ·simp -failIfUnchanged (disch := first|omega|(simp [wcs_len]<;>omega)|fail) only [go_sem,simprocAttr]
  have hlt : p < PL := by omega
  refine wcall (c62 b hv g' g2 caps' caps2 may' carry hm hcarry cord p) ?_
  simp -failIfUnchanged (disch := first|omega|(simp [wcs_len]<;>omega)|fail) only [go_sem,simprocAttr]
  refine wcall (hsel _) ?_
  simp -failIfUnchanged (disch := first|omega|(simp [wcs_len]<;>omega)|fail) only [go_sem,simprocAttr]
  have hbd := spanD_bound b hb1 may' carry cord p b.base.toNat (Nat.le_refl _)
  obtain ⟨d, hd⟩ : ∃ d : Nat, sel (spanD b may' carry cord p b.base.toNat) = d := ⟨(sel (spanD b may' carry cord p b.base.toNat)).toNat, by
   rcases hsel2 (spanD b may' carry cord p b.base.toNat) with e | e <;> omega⟩
  rw [hd]
  refine wcall (c63 b.base [n, d] (by simp)) ?_
  simp -failIfUnchanged (disch := first|omega|(simp [wcs_len]<;>omega)|fail) only [go_sem,simprocAttr]
  refine wcall (c64 b g' g2 caps' caps2 cord p d) ?_
  simp -failIfUnchanged (disch := first|omega|(simp [wcs_len]<;>omega)|fail) only [go_sem,simprocAttr]
  refine ⟨(p + 1, 109, capsO g' caps' cord p d, onlyF may' cord p d, numL b.base [n, d]), ⟨by dsimp only; omega, fun c q d' h1 h2 h3 => c109 g' caps' may' cord p d c q d' (hm c q d' h1 h2 h3), ?_⟩, by dsimp only; omega, ?_⟩
  ·dsimp only
   rw [← he, show PL - p = (PL - (p + 1)) + 1 by omega]
   simp only [endF, hd, Int.toNat_natCast]
  ·simp -failIfUnchanged (disch := first|omega|(simp [wcs_len]<;>omega)|fail) only [go_sem,simprocAttr]
   simp
 ·simp -failIfUnchanged (disch := first|omega|(simp [wcs_len]<;>omega)|fail) only [go_sem,simprocAttr]
  have e : p = PL := by omega
  rw [hPn, ← he, e, Nat.sub_self]
  rfl
def sureD (b : Bk) (cord : Nat) : Sp := ⟨endF b yes2 cord (fun s => s.lo) 0 b.places.toNat yes3 0, endF b yes2 cord (fun s => s.hi) 0 b.places.toNat yes3 0⟩
theorem c16 (b : Bk) (hs : Small b) (c : Int) : Ctr Tryz.prog 16 [KB b, .int c]
  (ansR b (within c 0 b.cords.length) (SP ⟨0, 0⟩) (SP (sureD b c.toNat))) := by
 refine ctr_of_wp hmix Tryz.func16 m16 rfl ?_
 unfold v16 ansR
 simp -failIfUnchanged (disch := first|omega|(simp [wcs_len]<;>omega)|fail) only [go_sem,simprocAttr]
 refine wcall (c49 b c) ?_
 simp -failIfUnchanged (disch := first|omega|(simp [wcs_len]<;>omega)|fail) only [go_sem,simprocAttr]
 refine wcall (c60g b hs _) ?_
 unfold knownR
 cases hc : checkB b with
 | false => simp -failIfUnchanged (disch := first|omega|(simp [wcs_len]<;>omega)|fail) only [go_sem,simprocAttr]
 | true =>
  cases h1 : within c 0 b.cords.length with
  | false => simp -failIfUnchanged (disch := first|omega|(simp [wcs_len]<;>omega)|fail) only [go_sem,simprocAttr]
  | true =>
   have hv := val_of_check hc
   have h1' : 0 ≤ c ∧ c ≤ b.cords.length := by simpa [within] using h1
   by_cases hz : (solveL b yes3 yes2).r = 0
   ·simp -failIfUnchanged (disch := first|omega|(simp [wcs_len]<;>omega)|fail) only [go_sem,simprocAttr, hz]
   ·simp -failIfUnchanged (disch := first|omega|(simp [wcs_len]<;>omega)|fail) only [go_sem,simprocAttr, hz]
    obtain ⟨cn, rfl⟩ : ∃ m : Nat, c = m := ⟨c.toNat, by omega⟩
    refine wcall (c61 b hv 117 118 [] [] yes3 yes2 (fun c p d _ _ _ => c117 c p d) (fun p n _ _ => c118 p n) cn 65 (fun s => s.lo) c65 (fun s => .inl rfl)) ?_
    simp -failIfUnchanged (disch := first|omega|(simp [wcs_len]<;>omega)|fail) only [go_sem,simprocAttr]
    refine wcall (c61 b hv 117 118 [] [] yes3 yes2 (fun c p d _ _ _ => c117 c p d) (fun p n _ _ => c118 p n) cn 66 (fun s => s.hi) c66 (fun s => .inr rfl)) ?_
    simp -failIfUnchanged (disch := first|omega|(simp [wcs_len]<;>omega)|fail) only [go_sem,simprocAttr]
    simp [sureD]
end Go.Proofs.YtpangdaijhiohaaGreatDoor.Kn

set_option linter.unusedSimpArgs false
set_option linter.unusedVariables false
set_option linter.unnecessarySimpa false
namespace Go.Proofs.YtpangdaijhiohaaGreatDoor.Kn
open Go Go.V
end Go.Proofs.YtpangdaijhiohaaGreatDoor.Kn

set_option linter.unusedSimpArgs false
set_option linter.unusedVariables false
set_option linter.unnecessarySimpa false
namespace Go.Proofs.YtpangdaijhiohaaGreatDoor.Kn
open Go Go.V
structure As3 where
 c : Int
 p : Int
 w : Int
end Go.Proofs.YtpangdaijhiohaaGreatDoor.Kn

set_option linter.unusedSimpArgs false
set_option linter.unusedVariables false
set_option linter.unnecessarySimpa false
namespace Go.Proofs.YtpangdaijhiohaaGreatDoor.Kn
open Go Go.V
end Go.Proofs.YtpangdaijhiohaaGreatDoor.Kn

set_option linter.unusedSimpArgs false
set_option linter.unusedVariables false
set_option linter.unnecessarySimpa false
namespace Go.Proofs.YtpangdaijhiohaaGreatDoor.Kn
open Go Go.V
end Go.Proofs.YtpangdaijhiohaaGreatDoor.Kn

set_option linter.unusedSimpArgs false
set_option linter.unusedVariables false
set_option linter.unnecessarySimpa false
namespace Go.Proofs.YtpangdaijhiohaaGreatDoor.Kn
open Go Go.V
end Go.Proofs.YtpangdaijhiohaaGreatDoor.Kn

set_option linter.unusedSimpArgs false
set_option linter.unusedVariables false
set_option linter.unnecessarySimpa false
namespace Go.Proofs.YtpangdaijhiohaaGreatDoor.Kn
def sumF {α : Type} (l : List α) (f : α → Nat) : Nat := (l.map f).sum
section
variable {α β : Type}
theorem sumF_nil (f : α → Nat) : sumF [] f = 0 := rfl
theorem sumF_cons (a : α) (l : List α) (f : α → Nat) : sumF (a :: l) f = f a + sumF l f := by simp [sumF]
theorem sumF_append (l k : List α) (f : α → Nat) : sumF (l ++ k) f = sumF l f + sumF k f := by simp [sumF]
theorem sumF_map (l : List α) (g : α → β) (f : β → Nat) : sumF (l.map g) f = sumF l fun a => f (g a) := by simp [sumF, Function.comp_def]
theorem sumF_congr {l : List α} {f g : α → Nat} (h : ∀ a ∈ l, f a = g a) : sumF l f = sumF l g := by
 induction l with
 | nil => rfl
 | cons a r ih => rw [sumF_cons, sumF_cons, h a (by simp), ih fun b hb => h b (by simp [hb])]
theorem sumF_flatMap (l : List α) (g : α → List β) (f : β → Nat) : sumF (l.flatMap g) f = sumF l fun a => sumF (g a) f := by
 induction l with
 | nil => rfl
 | cons a r ih => rw [List.flatMap_cons, sumF_append, ih, sumF_cons]
theorem sumF_filter (l : List α) (p : α → Bool) (f : α → Nat) : sumF (l.filter p) f = sumF l fun a => if p a then f a else 0 := by
 induction l with
 | nil => rfl
 | cons a r ih =>
  rw [sumF_cons, ← ih]
  by_cases h : p a
  ·rw [List.filter_cons_of_pos h, sumF_cons, if_pos h]
  ·rw [List.filter_cons_of_neg h, if_neg h, Nat.zero_add]
theorem sumF_zero (l : List α) : (sumF l fun _ => 0) = 0 := by
 induction l with
 | nil => rfl
 | cons a r ih => rw [sumF_cons, ih]
theorem sumF_add (l : List α) (f g : α → Nat) : (sumF l fun a => f a + g a) = sumF l f + sumF l g := by
 induction l with
 | nil => rfl
 | cons a r ih => rw [sumF_cons, sumF_cons, sumF_cons, ih]; omega
theorem sumF_comm (l : List α) (k : List β) (f : α → β → Nat) : (sumF l fun a => sumF k (f a)) = sumF k fun b => sumF l fun a => f a b := by
 induction l with
 | nil => simp only [sumF_nil, sumF_zero]
 | cons a r ih =>
  rw [sumF_cons, ih, ← sumF_add]
  exact sumF_congr fun b _ => by rw [sumF_cons]
theorem sumF_if (c : Prop) [Decidable c] (l : List α) (f : α → Nat) : (if c then sumF l f else 0) = sumF l fun a => if c then f a else 0 := by
 by_cases h : c
 ·simp only [if_pos h]
 ·simp only [if_neg h, sumF_zero]
theorem sumF_pos {l : List α} {f : α → Nat} : 0 < sumF l f ↔ ∃ a ∈ l, 0 < f a := by
 induction l with
 | nil => simp [sumF_nil]
 | cons a r ih =>
  rw [sumF_cons]
  constructor
  ·intro h
   by_cases h1 : 0 < f a
   ·exact ⟨a, by simp, h1⟩
   ·obtain ⟨b, hb, h2⟩ := ih.1 (by omega)
    exact ⟨b, by simp [hb], h2⟩
  ·rintro ⟨b, hb, h⟩
   rcases List.mem_cons.1 hb with rfl | hb
   ·omega
   ·have := ih.2 ⟨b, hb, h⟩
    omega
theorem sumF_le {l : List α} {f g : α → Nat} (h : ∀ a ∈ l, f a ≤ g a) : sumF l f ≤ sumF l g := by
 induction l with
 | nil => simp [sumF_nil]
 | cons a r ih =>
  rw [sumF_cons, sumF_cons]
  have := h a (by simp)
  have := ih fun b hb => h b (by simp [hb])
  omega
theorem sumF_len (l : List α) : (sumF l fun _ => 1) = l.length := by
 induction l with
 | nil => rfl
 | cons a r ih => rw [sumF_cons, ih, List.length_cons]; omega
theorem sumF_range_succ (n : Nat) (f : Nat → Nat) : sumF (List.range (n + 1)) f = sumF (List.range n) f + f n := by
 rw [List.range_succ, sumF_append, sumF_cons, sumF_nil, Nat.add_zero]
theorem sumF_range_add (n m : Nat) (f : Nat → Nat) : sumF (List.range (n + m)) f = sumF (List.range n) f + sumF (List.range m) fun t => f (n + t) := by
 induction m with
 | zero => simp [sumF_nil]
 | succ m ih => rw [← Nat.add_assoc, sumF_range_succ, ih, sumF_range_succ, Nat.add_assoc]
theorem sumF_range_mul (B N : Nat) (f : Nat → Nat) : sumF (List.range (B * N)) f = sumF (List.range B) fun d => sumF (List.range N) fun t => f (d * N + t) := by
 induction B with
 | zero => simp [sumF_nil]
 | succ B ih => rw [Nat.succ_mul, sumF_range_add, ih, sumF_range_succ]
end
def tup : Nat → Nat → List (List Nat)
 | 0, _ => [[]]
 | m + 1, N => (List.range N).flatMap fun n => (tup m N).map fun t => n :: t
theorem tup_mem {m N : Nat} : ∀ {t : List Nat}, t ∈ tup m N ↔ t.length = m ∧ ∀ x ∈ t, x < N := by
 induction m with
 | zero =>
  intro t
  simp only [tup, List.mem_singleton]
  constructor
  ·rintro rfl; simp
  ·rintro ⟨h, _⟩; exact List.eq_nil_of_length_eq_zero h
 | succ m ih =>
  intro t
  simp only [tup, List.mem_flatMap, List.mem_range, List.mem_map]
  constructor
  ·rintro ⟨n, hn, u, hu, rfl⟩
   obtain ⟨h1, h2⟩ := ih.1 hu
   refine ⟨by simp [h1], fun x hx => ?_⟩
   rcases List.mem_cons.1 hx with rfl | hx
   ·exact hn
   ·exact h2 x hx
  ·rintro ⟨h1, h2⟩
   cases t with
   | nil => simp at h1
   | cons n u => exact ⟨n, h2 n (by simp), u, ih.2 ⟨by simpa using h1, fun x hx => h2 x (by simp [hx])⟩, rfl⟩
theorem sumF_tup_succ (m N : Nat) (f : List Nat → Nat) : sumF (tup (m + 1) N) f = sumF (List.range N) fun n => sumF (tup m N) fun t => f (n :: t) := by
 rw [tup, sumF_flatMap]
 exact sumF_congr fun n _ => by rw [sumF_map]
def comb (N : Nat) : List Nat → List Nat → List Nat
 | d :: ds, t :: ts => (d * N + t) :: comb N ds ts
 | _, _ => []
theorem sumF_tup_mul (B N : Nat) : ∀ (m : Nat) (f : List Nat → Nat), sumF (tup m (B * N)) f = sumF (tup m N) fun t => sumF (tup m B) fun d => f (comb N d t)
 | 0, f => by simp [tup, sumF_cons, sumF_nil, comb]
 | m + 1, f => by
  rw [sumF_tup_succ, sumF_range_mul, sumF_tup_succ]
  have : (fun d => sumF (List.range N) fun t => sumF (tup m (B * N)) fun u => f ((d * N + t) :: u)) = fun d => sumF (List.range N) fun t => sumF (tup m N) fun u => sumF (tup m B) fun e => f ((d * N + t) :: comb N e u) := by
   funext d
   congr 1
   funext t
   exact sumF_tup_mul B N m _
  rw [this, sumF_comm]
  refine sumF_congr fun t _ => ?_
  rw [sumF_comm]
  refine sumF_congr fun u _ => ?_
  rw [sumF_tup_succ]
  rfl
theorem comb_low {N : Nat} : ∀ {d t : List Nat}, d.length = t.length → (∀ x ∈ t, x < N) → (comb N d t).map (· % N) = t ∧ (comb N d t).map (· / N) = d
 | [], [], _, _ => ⟨rfl, rfl⟩
 | d :: ds, t :: ts, hl, ht => by
  obtain ⟨h1, h2⟩ := comb_low (d := ds) (t := ts) (by simpa using hl) fun x hx => ht x (by simp [hx])
  have h0 := ht t (by simp)
  simp only [comb, List.map_cons, h1, h2, List.cons.injEq, and_true]
  constructor
  ·rw [Nat.mul_comm, Nat.mul_add_mod, Nat.mod_eq_of_lt h0]
  ·rw [Nat.mul_comm, Nat.mul_add_div (by omega), Nat.div_eq_of_lt h0, Nat.add_zero]
 | [], _ :: _, h, _ => by simp at h
 | _ :: _, [], h, _ => by simp at h
end Go.Proofs.YtpangdaijhiohaaGreatDoor.Kn

set_option linter.unusedSimpArgs false
set_option linter.unusedVariables false
set_option linter.unnecessarySimpa false
namespace Go.Proofs.YtpangdaijhiohaaGreatDoor.Kn
open Go Go.V
abbrev at0 (s : List Wy) (n : Nat) : Wy := s[n]?.getD default
structure Sem (s : List Wy) (L : List (Nat × Int)) : Prop where
 r : ∀ n, n < 51 → (at0 s n).r = ((sumF L fun e => if e.1 = n ∧ e.2 = 0 then 1 else 0 : Nat) : Int)
 lo : ∀ n, n < 51 → ∀ e ∈ L, e.1 = n → (at0 s n).k ≤ e.2
 ex : ∀ n, n < 51 → (at0 s n).k = 1048576 ∨ ∃ e ∈ L, e.1 = n ∧ e.2 = (at0 s n).k
theorem at0_set (s : List Wy) (i j : Nat) (w : Wy) (h : s.length = 51) (hi : i < 51) : at0 (s.set i w) j = if i = j then w else at0 s j := by
 unfold at0
 rw [List.getElem?_set]
 by_cases e : i = j
 ·subst e
  simp [h, hi]
 ·rw [if_neg e, if_neg e]
theorem addD_len (d : Nat) (cost : Int) (s : List Wy) : ∀ (m : Nat) (out : List Wy), ((List.range m).foldl (addN d cost s) out).length = out.length
 | 0, _ => rfl
 | m + 1, out => by
  rw [List.range_succ, List.foldl_append]
  simp only [List.foldl_cons, List.foldl_nil, addN, List.length_set]
  exact addD_len d cost s m out
theorem addD_at (d : Nat) (cost : Int) (s out : List Wy) (ho : out.length = 51) (j : Nat) : ∀ m, m + d ≤ 51 → at0 ((List.range m).foldl (addN d cost s) out) j =
  if d ≤ j ∧ j < d + m then ⟨min (at0 out j).k ((at0 s (j - d)).k + cost), if cost = 0 then w64 ((at0 out j).r + (at0 s (j - d)).r) else (at0 out j).r⟩ else at0 out j
 | 0, _ => by rw [if_neg (by omega)]; rfl
 | m + 1, h => by
  have ih := fun j => addD_at d cost s out ho j m (by omega)
  rw [List.range_succ, List.foldl_append]
  simp only [List.foldl_cons, List.foldl_nil]
  rw [addN, at0_set _ _ _ _ (by rw [addD_len]; exact ho) (by omega)]
  by_cases e : m + d = j
  ·rw [if_pos e, if_pos (show d ≤ j ∧ j < d + (m + 1) by omega)]
   have hm : at0 ((List.range m).foldl (addN d cost s) out) (m + d) = at0 out (m + d) := by rw [ih, if_neg (by omega)]
   simp only [at0] at hm
   rw [hm]
   subst e
   rw [Nat.add_sub_cancel]
  ·rw [if_neg e, ih j]
   by_cases h2 : d ≤ j ∧ j < d + m
   ·rw [if_pos h2, if_pos (show d ≤ j ∧ j < d + (m + 1) by omega)]
   ·rw [if_neg h2, if_neg (show ¬ (d ≤ j ∧ j < d + (m + 1)) by omega)]
theorem sem_addD {d : Nat} {cost : Int} {s out : List Wy} {Ls Lo : List (Nat × Int)} (hs : Sem s Ls) (ho : Sem out Lo) (okS : Okw s) (okO : Okw out) (hc : 0 ≤ cost)
  (hb : ∀ e ∈ Ls, e.1 + d < 51 ∧ 0 ≤ e.2) (hd : d ≤ 51) (hl : Lo.length + Ls.length < 9223372036854775807) : Sem (addD d cost s out) (Lo ++ Ls.map fun e => (e.1 + d, e.2 + cost)) := by
 have hat := fun j => addD_at d cost s out okO.len j (51 - d) (by omega)
 have hcnt : ∀ (L : List (Nat × Int)) (n : Nat), (sumF L fun e => if e.1 = n ∧ e.2 = 0 then 1 else 0) ≤ L.length := by
  intro L n
  rw [← sumF_len]
  exact sumF_le fun e _ => by split <;> omega
 refine ⟨fun n hn => ?_, fun n hn e he h1 => ?_, fun n hn => ?_⟩
 ·rw [addD, hat, sumF_append, sumF_map]
  by_cases h : d ≤ n
  ·rw [if_pos (by omega)]
   have e1 : (sumF Ls fun a => if a.1 + d = n ∧ a.2 + cost = 0 then 1 else 0) = if cost = 0 then (sumF Ls fun e => if e.1 = n - d ∧ e.2 = 0 then 1 else 0) else 0 := by
    by_cases hz : cost = 0
    ·rw [if_pos hz]
     refine sumF_congr fun a ha => ?_
     have := hb a ha
     by_cases q : a.1 = n - d ∧ a.2 = 0
     ·rw [if_pos q, if_pos (by omega)]
     ·rw [if_neg q, if_neg (by omega)]
    ·rw [if_neg hz]
     refine Eq.trans (sumF_congr (g := fun _ => 0) fun a ha => ?_) (sumF_zero Ls)
     have := hb a ha
     rw [if_neg (by omega)]
   rw [e1]
   by_cases hz : cost = 0
   ·simp only [if_pos hz]
    rw [ho.r n hn, hs.r (n - d) (by omega)]
    have := hcnt Lo n
    have := hcnt Ls (n - d)
    rw [w64_id (by omega)]
    omega
   ·simp only [if_neg hz]
    rw [ho.r n hn]
    omega
  ·rw [if_neg (by omega), ho.r n hn]
   have : (sumF Ls fun a => if a.1 + d = n ∧ a.2 + cost = 0 then 1 else 0) = 0 := by
    refine Eq.trans (sumF_congr (g := fun _ => 0) fun a ha => ?_) (sumF_zero Ls)
    rw [if_neg (by omega)]
   rw [this, Nat.add_zero]
 ·rw [addD, hat]
  rcases List.mem_append.1 he with he | he
  ·have := ho.lo n hn e he h1
   split
   ·dsimp only; omega
   ·exact this
  ·obtain ⟨a, ha, rfl⟩ := List.mem_map.1 he
   dsimp only at h1 ⊢
   have := hs.lo (n - d) (by omega) a ha (by omega)
   rw [if_pos (by omega)]
   dsimp only
   omega
 ·rw [addD, hat]
  split
  ·rename_i hh
   dsimp only
   by_cases hle : (at0 out n).k ≤ (at0 s (n - d)).k + cost
   ·rw [Int.min_eq_left hle]
    rcases ho.ex n hn with h | ⟨e, h1, h2, h3⟩
    ·exact .inl h
    ·exact .inr ⟨e, by simp [h1], h2, h3⟩
   ·rw [Int.min_eq_right (by omega)]
    have hk := okO.k1 n hn
    rcases hs.ex (n - d) (by omega) with h | ⟨e, h1, h2, h3⟩
    ·have h' : (s[n - d]?.getD default).k = 1048576 := h
     simp only [at0] at hle h hk
     omega
    ·exact .inr ⟨(e.1 + d, e.2 + cost), by simp only [List.mem_append, List.mem_map]; exact .inr ⟨e, h1, rfl⟩, by dsimp only; omega, by dsimp only; omega⟩
  ·rcases ho.ex n hn with h | ⟨e, h1, h2, h3⟩
   ·exact .inl h
   ·exact .inr ⟨e, by simp [h1], h2, h3⟩
theorem sem_none : Sem ((emptyL 0).set 0 ⟨1048576, 0⟩) [] := by
 have hl : (emptyL 0).length = 51 := by simp [emptyL]
 have key : ∀ n, n < 51 → at0 ((emptyL 0).set 0 ⟨1048576, 0⟩) n = ⟨1048576, 0⟩ := by
  intro n hn
  rw [at0_set _ _ _ _ hl (by omega)]
  by_cases h : 0 = n
  ·rw [if_pos h]
  ·rw [if_neg h]
   simp only [at0, emptyL, List.getElem?_set, List.getElem?_replicate, List.length_replicate]
   rw [if_neg (by omega)]
   simp [hn]
 refine ⟨fun n hn => by rw [key n hn]; rfl, fun n hn e he => by simp at he, fun n hn => .inl (by rw [key n hn])⟩
theorem sem_one : Sem (emptyL 0) [(0, 0)] := by
 have key : ∀ n, n < 51 → at0 (emptyL 0) n = if n = 0 then ⟨0, 1⟩ else ⟨1048576, 0⟩ := by
  intro n hn
  simp only [at0, emptyL, List.getElem?_set, List.getElem?_replicate, List.length_replicate]
  by_cases h : n = 0
  ·subst h; rfl
  ·rw [if_neg (by omega), if_neg h]
   simp [hn]
 refine ⟨fun n hn => ?_, fun n hn e he h1 => ?_, fun n hn => ?_⟩
 ·rw [key n hn, sumF_cons, sumF_nil]
  by_cases h : n = 0
  ·subst h; rfl
  ·rw [if_neg h, if_neg (by simp; omega)]; rfl
 ·simp only [List.mem_singleton] at he
  subst he
  rw [key n hn, if_pos (by simp at h1; omega)]
  simp
 ·rw [key n hn]
  by_cases h : n = 0
  ·exact .inr ⟨(0, 0), by simp, by simp [h], by simp [h]⟩
  ·rw [if_neg h]; exact .inl rfl
def moreW (base : Nat) (may : Nat → Bool) (cost : Nat → Int) (L : List (Nat × Int)) : List (Nat × Int) :=
 (List.range base).flatMap fun d => if may d then L.map fun e => (e.1 + d, e.2 + cost d) else []
theorem moreW_succ (base : Nat) (may : Nat → Bool) (cost : Nat → Int) (L : List (Nat × Int)) : moreW (base + 1) may cost L = moreW base may cost L ++ if may base then L.map fun e => (e.1 + base, e.2 + cost base) else [] := by
 unfold moreW
 rw [List.range_succ, List.flatMap_append]
 simp
theorem moreW_len (may : Nat → Bool) (cost : Nat → Int) (L : List (Nat × Int)) : ∀ base, (moreW base may cost L).length ≤ base * L.length
 | 0 => by simp [moreW]
 | base + 1 => by
  rw [moreW_succ, List.length_append, Nat.succ_mul]
  have := moreW_len may cost L base
  split <;> simp <;> omega
theorem sem_moreL {base : Nat} {may : Nat → Bool} {cost : Nat → Int} {s : List Wy} {L : List (Nat × Int)} (hs : Sem s L) (okS : Okw s) (hc : ∀ d, 0 ≤ cost d) (hb : ∀ e ∈ L, e.1 + base < 52 ∧ 0 ≤ e.2) (hbase : base ≤ 10)
  (hl : (base + 1) * L.length < 9223372036854775807) : Sem (moreL base may cost s) (moreW base may cost L) := by
 have key : ∀ m, m ≤ base → Sem ((List.range m).foldl (fun out d => if may d then addD d (cost d) s out else out) ((emptyL 0).set 0 ⟨1048576, 0⟩)) (moreW m may cost L) ∧ Okw ((List.range m).foldl (fun out d => if may d then addD d (cost d) s out else out) ((emptyL 0).set 0 ⟨1048576, 0⟩)) := by
  intro m
  induction m with
  | zero => intro _; exact ⟨sem_none, okw_set okw_empty (by simp) (by simp)⟩
  | succ m ih =>
   intro hm
   obtain ⟨ih1, ih2⟩ := ih (by omega)
   rw [List.range_succ, List.foldl_append, moreW_succ]
   simp only [List.foldl_cons, List.foldl_nil]
   by_cases h : may m
   ·rw [if_pos h, if_pos h]
    refine ⟨sem_addD hs ih1 okS ih2 (hc m) (fun e he => ⟨by have := hb e he; omega, (hb e he).2⟩) (by omega) ?_, okw_addD okS ih2 (hc m) (51 - m) (by omega)⟩
    have h1 := moreW_len may cost L m
    have h2 : m * L.length + L.length ≤ (base + 1) * L.length := by rw [← Nat.succ_mul]; exact Nat.mul_le_mul_right _ (by omega)
    omega
   ·rw [if_neg h, if_neg h, List.append_nil]
    exact ⟨ih1, ih2⟩
 exact (key base (Nat.le_refl _)).1
def topW (base : Nat) (ok : Nat → Bool) (cost : Nat → Int) (L : List (Nat × Int)) : List (Nat × Int) :=
 (L.filter fun e => ok e.1).map fun e => (e.1 / base, e.2 + cost (e.1 % base))
end Go.Proofs.YtpangdaijhiohaaGreatDoor.Kn

set_option linter.unusedSimpArgs false
set_option linter.unusedVariables false
set_option linter.unnecessarySimpa false
namespace Go.Proofs.YtpangdaijhiohaaGreatDoor.Kn
open Go Go.V
def topP (base : Nat) (ok : Nat → Bool) (cost : Nat → Int) (L : List (Nat × Int)) (N : Nat) : List (Nat × Int) :=
 (L.filter fun e => decide (e.1 < N) && ok e.1).map fun e => (e.1 / base, e.2 + cost (e.1 % base))
theorem topP_sum (base : Nat) (ok : Nat → Bool) (cost : Nat → Int) (L : List (Nat × Int)) (N : Nat) (g : Nat × Int → Nat) :
  sumF (topP base ok cost L (N + 1)) g = sumF (topP base ok cost L N) g + if ok N then sumF L (fun e => if e.1 = N then g (N / base, e.2 + cost (N % base)) else 0) else 0 := by
 unfold topP
 rw [sumF_map, sumF_map, sumF_filter, sumF_filter, sumF_if, ← sumF_add]
 refine sumF_congr fun e _ => ?_
 by_cases h : e.1 = N
 ·subst h
  by_cases h2 : ok e.1
  ·simp [h2]
  ·simp [h2]
 ·by_cases h2 : e.1 < N
  ·have h3 : e.1 < N + 1 := by omega
   simp [h, h2, h3]
  ·have h3 : ¬ e.1 < N + 1 := by omega
   simp [h, h2, h3]
theorem topP_mem (base : Nat) (ok : Nat → Bool) (cost : Nat → Int) (L : List (Nat × Int)) (N : Nat) (x : Nat × Int) :
  x ∈ topP base ok cost L (N + 1) ↔ x ∈ topP base ok cost L N ∨ (ok N = true ∧ ∃ e ∈ L, e.1 = N ∧ x = (N / base, e.2 + cost (N % base))) := by
 unfold topP
 simp only [List.mem_map, List.mem_filter, Bool.and_eq_true, decide_eq_true_eq]
 constructor
 ·rintro ⟨e, ⟨h1, h2, h3⟩, rfl⟩
  by_cases h : e.1 < N
  ·exact .inl ⟨e, ⟨h1, h, h3⟩, rfl⟩
  ·have : e.1 = N := by omega
   rw [this] at h3 ⊢
   exact .inr ⟨h3, e, h1, this, rfl⟩
 ·rintro (⟨e, ⟨h1, h2, h3⟩, rfl⟩ | ⟨h1, e, h2, h3, rfl⟩)
  ·exact ⟨e, ⟨h1, by omega, h3⟩, rfl⟩
  ·exact ⟨e, ⟨h2, by omega, by rw [h3]; exact h1⟩, by rw [h3]⟩
theorem sem_topN {b : Bk} {may : Nat → Nat → Nat → Bool} {carry : Nat → Nat → Bool} {p : Nat} {s : List Wy} {L : List (Nat × Int)} (hs : Sem s L) (okS : Okw s) (hB : 2 ≤ b.base.toNat) (hpos : ∀ e ∈ L, 0 ≤ e.2) (hl : 2 * L.length < 9223372036854775807) : ∀ N, N ≤ 51 →
  Sem ((List.range N).foldl (topN b may carry p s) ((emptyL 0).set 0 ⟨1048576, 0⟩)) (topP b.base.toNat (fun n => may b.cords.length p (n % b.base.toNat) && carry p (n / b.base.toNat)) (fun d => costL (topAt b p) d) L N) ∧
  Okw ((List.range N).foldl (topN b may carry p s) ((emptyL 0).set 0 ⟨1048576, 0⟩))
 | 0, _ => by
  have : topP b.base.toNat (fun n => may b.cords.length p (n % b.base.toNat) && carry p (n / b.base.toNat)) (fun d => costL (topAt b p) d) L 0 = [] := by simp [topP]
  rw [this]
  exact ⟨sem_none, okw_set okw_empty (by simp) (by simp)⟩
 | N + 1, h => by
  obtain ⟨ih1, ih2⟩ := sem_topN hs okS hB hpos hl N (by omega) (b := b) (may := may) (carry := carry) (p := p)
  generalize hok : (fun n => may b.cords.length p (n % b.base.toNat) && carry p (n / b.base.toNat)) = ok at ih1 ⊢
  generalize hco : (fun d : Nat => costL (topAt b p) d) = cost at ih1 ⊢
  generalize hnow : (List.range N).foldl (topN b may carry p s) ((emptyL 0).set 0 ⟨1048576, 0⟩) = now at ih1 ih2
  have hc0 : 0 ≤ cost (N % b.base.toNat) := by rw [← hco]; exact costL_nonneg _ _
  have hcN : costL (topAt b p) ((N % b.base.toNat : Nat) : Int) = cost (N % b.base.toNat) := by rw [← hco]
  have hokN : (may b.cords.length p (N % b.base.toNat) && carry p (N / b.base.toNat)) = ok N := by rw [← hok]
  have hq : N / b.base.toNat ≤ N := Nat.div_le_self _ _
  rw [List.range_succ, List.foldl_append, hnow]
  simp only [List.foldl_cons, List.foldl_nil, topN]
  rw [hokN, hcN]
  refine ⟨?_, ?_⟩
  ·by_cases hN : ok N = true
   ·rw [if_pos hN]
    have hlen : (topP b.base.toNat ok cost L N).length ≤ L.length := by
     unfold topP; rw [List.length_map]; exact List.length_filter_le _ _
    have hcnt : ∀ (M : List (Nat × Int)) (n : Nat), (sumF M fun e => if e.1 = n ∧ e.2 = 0 then 1 else 0) ≤ M.length := by
     intro M n
     rw [← sumF_len]
     exact sumF_le fun e _ => by split <;> omega
    have hat := fun n => at0_set now (N / b.base.toNat) n ⟨min (at0 now (N / b.base.toNat)).k ((at0 s N).k + cost (N % b.base.toNat)), if cost (N % b.base.toNat) = 0 then w64 ((at0 now (N / b.base.toNat)).r + (at0 s N).r) else (at0 now (N / b.base.toNat)).r⟩ ih2.len (by omega)
    refine ⟨fun n hn => ?_, fun n hn x hx h1 => ?_, fun n hn => ?_⟩
    ·rw [hat, topP_sum, if_pos hN]
     by_cases e : N / b.base.toNat = n
     ·rw [if_pos e]
      have e1 : (sumF L fun a => if a.1 = N then (if (N / b.base.toNat, a.2 + cost (N % b.base.toNat)).1 = n ∧ (N / b.base.toNat, a.2 + cost (N % b.base.toNat)).2 = 0 then 1 else 0) else 0) = if cost (N % b.base.toNat) = 0 then (sumF L fun e => if e.1 = N ∧ e.2 = 0 then 1 else 0) else 0 := by
       by_cases hz : cost (N % b.base.toNat) = 0
       ·rw [if_pos hz]
        refine sumF_congr fun a ha => ?_
        have := hpos a ha
        by_cases q : a.1 = N
        ·simp only [q, true_and, e, hz, Int.add_zero, if_true]
        ·simp [q]
       ·rw [if_neg hz]
        refine Eq.trans (sumF_congr (g := fun _ => 0) fun a ha => ?_) (sumF_zero L)
        have := hpos a ha
        by_cases q : a.1 = N
        ·rw [if_pos q, if_neg (by dsimp only; omega)]
        ·rw [if_neg q]
      rw [e1]
      subst e
      have i1 := ih1.r (N / b.base.toNat) (by omega)
      have i2 := hs.r N (by omega)
      have := hcnt (topP b.base.toNat ok cost L N) (N / b.base.toNat)
      have := hcnt L N
      dsimp only
      by_cases hz : cost (N % b.base.toNat) = 0
      ·simp only [if_pos hz]
       rw [i1, i2, w64_id (by omega)]
       omega
      ·simp only [if_neg hz]
       rw [i1]
       omega
     ·rw [if_neg e, ih1.r n hn]
      have : (sumF L fun a => if a.1 = N then (if (N / b.base.toNat, a.2 + cost (N % b.base.toNat)).1 = n ∧ (N / b.base.toNat, a.2 + cost (N % b.base.toNat)).2 = 0 then 1 else 0) else 0) = 0 := by
       refine Eq.trans (sumF_congr (g := fun _ => 0) fun a ha => ?_) (sumF_zero L)
       by_cases q : a.1 = N
       ·rw [if_pos q, if_neg (by dsimp only; omega)]
       ·rw [if_neg q]
      rw [this, Nat.add_zero]
    ·rw [hat]
     rcases (topP_mem _ _ _ _ _ _).1 hx with hx | ⟨_, a, ha, h2, rfl⟩
     ·have := ih1.lo n hn x hx h1
      split
      ·rename_i e
       subst e
       dsimp only
       omega
      ·exact this
     ·dsimp only at h1 ⊢
      rw [if_pos h1]
      have := hs.lo N (by omega) a ha h2
      dsimp only
      omega
    ·rw [hat]
     split
     ·rename_i e
      subst e
      dsimp only
      by_cases hle : (at0 now (N / b.base.toNat)).k ≤ (at0 s N).k + cost (N % b.base.toNat)
      ·rw [Int.min_eq_left hle]
       rcases ih1.ex _ hn with h | ⟨x, h1, h2, h3⟩
       ·exact .inl h
       ·exact .inr ⟨x, (topP_mem _ _ _ _ _ _).2 (.inl h1), h2, h3⟩
      ·rw [Int.min_eq_right (by omega)]
       have hk := ih2.k1 (N / b.base.toNat) hn
       rcases hs.ex N (by omega) with h | ⟨x, h1, h2, h3⟩
       ·simp only [at0] at hle h hk
        omega
       ·exact .inr ⟨(N / b.base.toNat, x.2 + cost (N % b.base.toNat)), (topP_mem _ _ _ _ _ _).2 (.inr ⟨hN, x, h1, h2, rfl⟩), rfl, by dsimp only; omega⟩
     ·rcases ih1.ex n hn with h | ⟨x, h1, h2, h3⟩
      ·exact .inl h
      ·exact .inr ⟨x, (topP_mem _ _ _ _ _ _).2 (.inl h1), h2, h3⟩
   ·rw [if_neg hN]
    refine ⟨fun n hn => ?_, fun n hn x hx h1 => ?_, fun n hn => ?_⟩
    ·rw [topP_sum, if_neg hN, Nat.add_zero]
     exact ih1.r n hn
    ·rcases (topP_mem _ _ _ _ _ _).1 hx with hx | ⟨h2, _⟩
     ·exact ih1.lo n hn x hx h1
     ·exact absurd h2 hN
    ·rcases ih1.ex n hn with h | ⟨x, h1, h2, h3⟩
     ·exact .inl h
     ·exact .inr ⟨x, (topP_mem _ _ _ _ _ _).2 (.inl h1), h2, h3⟩
  ·by_cases hN : ok N = true
   ·rw [if_pos hN]
    have a := okS.k0 N (by omega)
    have h0 := ih2.k0 (N / b.base.toNat) (by omega)
    have h1 := ih2.k1 (N / b.base.toNat) (by omega)
    exact okw_set ih2 (by dsimp only; omega) (by dsimp only; omega)
   ·rw [if_neg hN]
    exact ih2
theorem topP_all {base : Nat} {ok : Nat → Bool} {cost : Nat → Int} {L : List (Nat × Int)} {N : Nat} (h : ∀ e ∈ L, e.1 < N) : topP base ok cost L N = topW base ok cost L := by
 unfold topP topW
 congr 1
 apply List.filter_congr
 intro e he
 simp [h e he]
def colW (b : Bk) (may : Nat → Nat → Nat → Bool) (p : Nat) (L : List (Nat × Int)) : Nat → List (Nat × Int)
 | 0 => L
 | m + 1 => moreW b.base.toNat (may m p) (fun d => costL (spAt b m p) d) (colW b may p L m)
def stepW (b : Bk) (may : Nat → Nat → Nat → Bool) (carry : Nat → Nat → Bool) (p : Nat) (L : List (Nat × Int)) : List (Nat × Int) :=
 topW b.base.toNat (fun n => may b.cords.length p (n % b.base.toNat) && carry p (n / b.base.toNat)) (fun d => costL (topAt b p) d) (colW b may p L b.cords.length)
def solveW (b : Bk) (may : Nat → Nat → Nat → Bool) (carry : Nat → Nat → Bool) : Nat → List (Nat × Int) → List (Nat × Int)
 | 0, L => L
 | q + 1, L => solveW b may carry q (stepW b may carry q L)
theorem colL_succ (b : Bk) (may : Nat → Nat → Nat → Bool) (p : Nat) (s : List Wy) (m : Nat) : colL b may p s (m + 1) = moreL b.base.toNat (may m p) (fun d => costL (spAt b m p) d) (colL b may p s m) := by
 unfold colL
 rw [List.range_succ, List.foldl_append]
 rfl
theorem mem_moreW {base : Nat} {may : Nat → Bool} {cost : Nat → Int} {L : List (Nat × Int)} {x : Nat × Int} : x ∈ moreW base may cost L ↔ ∃ d, d < base ∧ may d = true ∧ ∃ e ∈ L, x = (e.1 + d, e.2 + cost d) := by
 unfold moreW
 simp only [List.mem_flatMap, List.mem_range]
 constructor
 ·rintro ⟨d, hd, hx⟩
  by_cases h : may d = true
  ·rw [if_pos h] at hx
   obtain ⟨e, he, rfl⟩ := List.mem_map.1 hx
   exact ⟨d, hd, h, e, he, rfl⟩
  ·rw [if_neg h] at hx; simp at hx
 ·rintro ⟨d, hd, h, e, he, rfl⟩
  exact ⟨d, hd, by rw [if_pos h]; exact List.mem_map.2 ⟨e, he, rfl⟩⟩
theorem sem_col {b : Bk} (hv : Val b) {may : Nat → Nat → Nat → Bool} {p : Nat} {s : List Wy} {L : List (Nat × Int)} (hs : Sem s L) (okS : Okw s) (hb : ∀ e ∈ L, e.1 ≤ b.cords.length ∧ 0 ≤ e.2) {M : Nat} (hL : L.length ≤ M) (hM : M ≤ 1000000000000) : ∀ m, m ≤ b.cords.length →
  Sem (colL b may p s m) (colW b may p L m) ∧ Okw (colL b may p s m) ∧ (∀ e ∈ colW b may p L m, e.1 ≤ b.cords.length + m * (b.base.toNat - 1) ∧ 0 ≤ e.2) ∧ (colW b may p L m).length ≤ 10 ^ m * M
 | 0, _ => ⟨hs, okS, by simpa [colW] using hb, by simpa [colW] using hL⟩
 | m + 1, h => by
  obtain ⟨hb1, hb2⟩ := hv.hb
  have hc4 := hv.hc
  obtain ⟨i1, i2, i3, i4⟩ := sem_col hv hs okS hb hL hM m (by omega) (may := may) (p := p)
  have hmm : m * (b.base.toNat - 1) ≤ 3 * 9 := Nat.mul_le_mul (by omega) (by omega)
  have hp : (10 : Nat) ^ m ≤ 1000 := by
   have : m = 0 ∨ m = 1 ∨ m = 2 ∨ m = 3 := by omega
   rcases this with rfl | rfl | rfl | rfl <;> decide
  have hlen : (colW b may p L m).length ≤ 1000 * 1000000000000 := Nat.le_trans i4 (Nat.mul_le_mul hp hM)
  have h11 : (b.base.toNat + 1) * (colW b may p L m).length ≤ 11 * (1000 * 1000000000000) := Nat.mul_le_mul (by omega) hlen
  rw [colL_succ]
  refine ⟨sem_moreL i1 i2 (fun d => costL_nonneg _ _) (fun e he => ⟨by have := i3 e he; omega, (i3 e he).2⟩) (by omega) (by omega), okw_moreL i2 (by omega) (fun d => costL_nonneg _ _), fun e he => ?_, ?_⟩
  ·obtain ⟨d, hd, _, a, ha, rfl⟩ := mem_moreW.1 he
   have := i3 a ha
   have := costL_nonneg (spAt b m p) d
   rw [Nat.succ_mul]
   dsimp only
   omega
  ·refine Nat.le_trans (moreW_len _ _ _ _) ?_
   refine Nat.le_trans (Nat.mul_le_mul (show b.base.toNat ≤ 10 by omega) i4) ?_
   rw [Nat.pow_succ, Nat.mul_comm (10 ^ m) 10, Nat.mul_assoc]
   exact Nat.le_refl _
theorem sem_step {b : Bk} (hv : Val b) {may : Nat → Nat → Nat → Bool} {carry : Nat → Nat → Bool} {p : Nat} {s : List Wy} {L : List (Nat × Int)} (hs : Sem s L) (okS : Okw s) (hb : ∀ e ∈ L, e.1 ≤ b.cords.length ∧ 0 ≤ e.2) {M : Nat} (hL : L.length ≤ M) (hM : M ≤ 1000000000000) :
  Sem (stepL b may carry p s) (stepW b may carry p L) ∧ Okw (stepL b may carry p s) ∧ (∀ e ∈ stepW b may carry p L, e.1 ≤ b.cords.length ∧ 0 ≤ e.2) ∧ (stepW b may carry p L).length ≤ 10000 * M := by
 obtain ⟨hb1, hb2⟩ := hv.hb
 have hc4 := hv.hc
 obtain ⟨i1, i2, i3, i4⟩ := sem_col hv hs okS hb hL hM b.cords.length (Nat.le_refl _) (may := may) (p := p)
 have hmm : b.cords.length * (b.base.toNat - 1) ≤ 4 * 9 := Nat.mul_le_mul (by omega) (by omega)
 have hp : (10 : Nat) ^ b.cords.length ≤ 10000 := by
  have : b.cords.length = 0 ∨ b.cords.length = 1 ∨ b.cords.length = 2 ∨ b.cords.length = 3 ∨ b.cords.length = 4 := by omega
  rcases this with h | h | h | h | h <;> rw [h] <;> decide
 have hlen : (colW b may p L b.cords.length).length ≤ 10000 * M := Nat.le_trans i4 (Nat.mul_le_mul_right _ hp)
 have hlen2 : 10000 * M ≤ 10000 * 1000000000000 := Nat.mul_le_mul_left _ hM
 obtain ⟨j1, j2⟩ := sem_topN i1 i2 (show 2 ≤ b.base.toNat by omega) (fun e he => (i3 e he).2) (by omega) 51 (Nat.le_refl _) (b := b) (may := may) (carry := carry) (p := p)
 rw [topP_all (fun e he => by have := i3 e he; omega)] at j1
 refine ⟨j1, j2, fun e he => ?_, ?_⟩
 ·unfold stepW topW at he
  obtain ⟨a, ha, rfl⟩ := List.mem_map.1 he
  have := i3 a (List.mem_filter.1 ha).1
  have := costL_nonneg (topAt b p) ((a.1 % b.base.toNat : Nat) : Int)
  refine ⟨?_, by dsimp only; omega⟩
  dsimp only
  have e1 : b.cords.length + b.cords.length * (b.base.toNat - 1) = b.cords.length * b.base.toNat := by
   obtain ⟨B, hB⟩ : ∃ B, b.base.toNat = B + 1 := ⟨b.base.toNat - 1, by omega⟩
   rw [hB, Nat.add_sub_cancel, Nat.mul_succ, Nat.add_comm]
  have : a.1 ≤ b.cords.length * b.base.toNat := by omega
  exact Nat.div_le_of_le_mul (by rw [Nat.mul_comm]; exact this)
 ·unfold stepW topW
  rw [List.length_map]
  exact Nat.le_trans (List.length_filter_le _ _) hlen
theorem sem_solve {b : Bk} (hv : Val b) {may : Nat → Nat → Nat → Bool} {carry : Nat → Nat → Bool} : ∀ (q : Nat) (s : List Wy) (L : List (Nat × Int)) (M : Nat), Sem s L → Okw s → (∀ e ∈ L, e.1 ≤ b.cords.length ∧ 0 ≤ e.2) → L.length ≤ M → 10000 ^ q * M ≤ 10000000000000000 →
  Sem (solveF b may carry q s) (solveW b may carry q L) ∧ ∀ e ∈ solveW b may carry q L, 0 ≤ e.2
 | 0, s, L, M, h1, _, h3, _, _ => ⟨h1, fun e he => (h3 e he).2⟩
 | q + 1, s, L, M, h1, h2, h3, h4, h5 => by
  have hq : 1 ≤ 10000 ^ q := Nat.one_le_pow _ _ (by omega)
  have hM : M ≤ 1000000000000 := by
   rw [Nat.pow_succ] at h5
   have : 1 * 10000 * M ≤ 10000 ^ q * 10000 * M := Nat.mul_le_mul_right _ (Nat.mul_le_mul_right _ hq)
   omega
  obtain ⟨i1, i2, i3, i4⟩ := sem_step hv h1 h2 h3 h4 hM (may := may) (carry := carry) (p := q)
  exact sem_solve hv q _ _ (10000 * M) i1 i2 i3 i4 (by rw [Nat.pow_succ, Nat.mul_assoc] at h5; exact h5)
theorem solveL_sem {b : Bk} (hv : Val b) (may : Nat → Nat → Nat → Bool) (carry : Nat → Nat → Bool) :
  (solveL b may carry).r = ((sumF (solveW b may carry b.places.toNat [(0, 0)]) fun e => if e.1 = 0 ∧ e.2 = 0 then 1 else 0 : Nat) : Int) ∧
  (∀ e ∈ solveW b may carry b.places.toNat [(0, 0)], e.1 = 0 → (solveL b may carry).k ≤ e.2) ∧
  ((solveL b may carry).k = 1048576 ∨ ∃ e ∈ solveW b may carry b.places.toNat [(0, 0)], e.1 = 0 ∧ e.2 = (solveL b may carry).k) := by
 have hp := hv.hp
 have h4 : 10000 ^ b.places.toNat * 1 ≤ 10000000000000000 := by
  have : b.places.toNat = 1 ∨ b.places.toNat = 2 ∨ b.places.toNat = 3 ∨ b.places.toNat = 4 := by omega
  rcases this with h | h | h | h <;> rw [h] <;> decide
 obtain ⟨h, _⟩ := sem_solve hv b.places.toNat (emptyL 0) [(0, 0)] 1 sem_one okw_empty (by simp) (by simp) h4 (may := may) (carry := carry)
 exact ⟨h.r 0 (by omega), h.lo 0 (by omega), h.ex 0 (by omega)⟩
end Go.Proofs.YtpangdaijhiohaaGreatDoor.Kn

set_option linter.unusedSimpArgs false
set_option linter.unusedVariables false
set_option linter.unnecessarySimpa false
namespace Go.Proofs.YtpangdaijhiohaaGreatDoor.Kn
open Go Go.V
theorem sumF_tup_last (N : Nat) : ∀ (j : Nat) (f : List Nat → Nat), sumF (tup (j + 1) N) f = sumF (tup j N) fun t => sumF (List.range N) fun n => f (t ++ [n])
 | 0, f => by
  rw [sumF_tup_succ]
  simp [tup, sumF_cons, sumF_nil]
 | j + 1, f => by
  rw [sumF_tup_succ, sumF_tup_succ]
  refine sumF_congr fun n _ => ?_
  rw [sumF_tup_last N j]
  rfl
theorem sumF_moreW (base : Nat) (may : Nat → Bool) (cost : Nat → Int) (L : List (Nat × Int)) (g : Nat × Int → Nat) :
  sumF (moreW base may cost L) g = sumF L fun e => sumF (List.range base) fun d => if may d then g (e.1 + d, e.2 + cost d) else 0 := by
 rw [moreW, sumF_flatMap, sumF_comm]
 refine sumF_congr fun d _ => ?_
 by_cases h : may d = true
 ·rw [if_pos h, sumF_map]
  exact sumF_congr fun e _ => by rw [if_pos h]
 ·rw [if_neg h, sumF_nil]
  exact (Eq.trans (sumF_congr (g := fun _ => 0) fun e _ => by rw [if_neg h]) (sumF_zero L)).symm
def colOK (may : Nat → Nat → Nat → Bool) (p : Nat) (j : Nat) (d : List Nat) : Bool := (List.range j).all fun c => may c p (d[c]?.getD default)
def colCost (b : Bk) (p : Nat) (j : Nat) (d : List Nat) : Int := (List.range j).foldl (fun a c => a + costL (spAt b c p) (d[c]?.getD default : Nat)) 0
theorem colOK_snoc (may : Nat → Nat → Nat → Bool) (p j n : Nat) (d : List Nat) (h : d.length = j) : colOK may p (j + 1) (d ++ [n]) = (colOK may p j d && may j p n) := by
 unfold colOK
 rw [List.range_succ, List.all_append]
 congr 1
 ·have : ∀ c, c ∈ List.range j → may c p ((d ++ [n])[c]?.getD default) = may c p (d[c]?.getD default) := by
   intro c hc
   have := List.mem_range.1 hc
   rw [List.getElem?_append_left (by omega)]
  rw [Bool.eq_iff_iff, List.all_eq_true, List.all_eq_true]
  exact ⟨fun h c hc => by rw [← this c hc]; exact h c hc, fun h c hc => by rw [this c hc]; exact h c hc⟩
 ·subst h
  simp
theorem colCost_snoc (b : Bk) (p j n : Nat) (d : List Nat) (h : d.length = j) : colCost b p (j + 1) (d ++ [n]) = colCost b p j d + costL (spAt b j p) n := by
 unfold colCost
 rw [List.range_succ, List.foldl_append]
 simp only [List.foldl_cons, List.foldl_nil]
 have h2 : (d ++ [n])[j]?.getD default = n := by subst h; simp
 rw [h2]
 congr 1
 have : ∀ (l : List Nat) (a : Int), (∀ c ∈ l, c < j) → l.foldl (fun a c => a + costL (spAt b c p) ((d ++ [n])[c]?.getD default : Nat)) a = l.foldl (fun a c => a + costL (spAt b c p) (d[c]?.getD default : Nat)) a := by
  intro l
  induction l with
  | nil => intro a _; rfl
  | cons x r ih =>
   intro a hx
   simp only [List.foldl_cons]
   rw [ih _ fun c hc => hx c (by simp [hc]), List.getElem?_append_left (by have := hx x (by simp); omega)]
 exact this _ _ fun c hc => List.mem_range.1 hc
theorem sumF_colW (b : Bk) (may : Nat → Nat → Nat → Bool) (p : Nat) (L : List (Nat × Int)) : ∀ (j : Nat) (g : Nat × Int → Nat),
  sumF (colW b may p L j) g = sumF L fun e => sumF (tup j b.base.toNat) fun d => if colOK may p j d then g (e.1 + d.sum, e.2 + colCost b p j d) else 0
 | 0, g => by
  refine sumF_congr fun e _ => ?_
  simp [tup, sumF_cons, sumF_nil, colOK, colCost]
 | j + 1, g => by
  rw [colW, sumF_moreW, sumF_colW b may p L j]
  refine sumF_congr fun e _ => ?_
  rw [sumF_tup_last]
  refine sumF_congr fun t ht => ?_
  have hl := (tup_mem.1 ht).1
  rw [sumF_if]
  refine sumF_congr fun n _ => ?_
  rw [colOK_snoc _ _ _ _ _ hl, colCost_snoc _ _ _ _ _ hl]
  simp only [List.sum_append, List.sum_cons, List.sum_nil, Nat.add_zero, Bool.and_eq_true]
  by_cases h1 : colOK may p j t = true
  ·by_cases h2 : may j p n = true
   ·simp only [h1, h2, if_true, and_self, Nat.add_assoc, Int.add_assoc]
   ·simp [h1, h2]
  ·simp [h1]
def carT (B : Nat) : Nat → List Nat → Nat
 | 0, _ => 0
 | k + 1, t => ((t.map (· / B ^ k)).sum + carT B k (t.map (· % B ^ k))) / B
def colT (B k : Nat) (t : List Nat) : Nat := (t.map (· / B ^ k)).sum + carT B k (t.map (· % B ^ k))
def okT (b : Bk) (may : Nat → Nat → Nat → Bool) (carry : Nat → Nat → Bool) : Nat → List Nat → Bool
 | 0, _ => true
 | k + 1, t => okT b may carry k (t.map (· % b.base.toNat ^ k)) && (colOK may (b.places.toNat - 1 - k) b.cords.length (t.map (· / b.base.toNat ^ k)) &&
   (may b.cords.length (b.places.toNat - 1 - k) (colT b.base.toNat k t % b.base.toNat) && carry (b.places.toNat - 1 - k) (colT b.base.toNat k t / b.base.toNat)))
def costT (b : Bk) : Nat → List Nat → Int
 | 0, _ => 0
 | k + 1, t => costT b k (t.map (· % b.base.toNat ^ k)) + colCost b (b.places.toNat - 1 - k) b.cords.length (t.map (· / b.base.toNat ^ k)) + costL (topAt b (b.places.toNat - 1 - k)) (colT b.base.toNat k t % b.base.toNat : Nat)
def LK (b : Bk) (may : Nat → Nat → Nat → Bool) (carry : Nat → Nat → Bool) : Nat → List (Nat × Int)
 | 0 => [(0, 0)]
 | k + 1 => stepW b may carry (b.places.toNat - 1 - k) (LK b may carry k)
theorem solveW_LK (b : Bk) (may : Nat → Nat → Nat → Bool) (carry : Nat → Nat → Bool) : ∀ q, q ≤ b.places.toNat → solveW b may carry q (LK b may carry (b.places.toNat - q)) = LK b may carry b.places.toNat
 | 0, _ => by rw [Nat.sub_zero]; rfl
 | q + 1, h => by
  have ih := solveW_LK b may carry q (by omega)
  rw [show b.places.toNat - q = (b.places.toNat - (q + 1)) + 1 by omega, LK, show b.places.toNat - 1 - (b.places.toNat - (q + 1)) = q by omega] at ih
  exact ih
theorem sumF_LK (b : Bk) (may : Nat → Nat → Nat → Bool) (carry : Nat → Nat → Bool) : ∀ (k : Nat) (f : Nat × Int → Nat),
  sumF (LK b may carry k) f = sumF (tup b.cords.length (b.base.toNat ^ k)) fun t => if okT b may carry k t then f (carT b.base.toNat k t, costT b k t) else 0
 | 0, f => by
  have h1 : ∀ m, sumF (tup m 1) (fun t => if okT b may carry 0 t then f (carT b.base.toNat 0 t, costT b 0 t) else 0) = f (0, 0) := by
   intro m
   induction m with
   | zero => simp [tup, sumF_cons, sumF_nil, okT, carT, costT]
   | succ m ih =>
    rw [sumF_tup_succ]
    simp only [List.range_one, sumF_cons, sumF_nil, Nat.add_zero]
    exact ih
  rw [Nat.pow_zero, h1]
  simp [LK, sumF_cons, sumF_nil]
 | k + 1, f => by
  rw [LK, stepW, topW, sumF_map, sumF_filter, sumF_colW, sumF_LK b may carry k, Nat.pow_succ, Nat.mul_comm, sumF_tup_mul]
  refine sumF_congr fun t ht => ?_
  obtain ⟨hl, hlt⟩ := tup_mem.1 ht
  rw [sumF_if]
  refine sumF_congr fun d hd => ?_
  obtain ⟨hl2, _⟩ := tup_mem.1 hd
  obtain ⟨e1, e2⟩ := comb_low (N := b.base.toNat ^ k) (d := d) (t := t) (by rw [hl, hl2]) hlt
  have e3 : colT b.base.toNat k (comb (b.base.toNat ^ k) d t) = carT b.base.toNat k t + d.sum := by
   unfold colT
   rw [e1, e2, Nat.add_comm]
  have e4 : carT b.base.toNat (k + 1) (comb (b.base.toNat ^ k) d t) = (carT b.base.toNat k t + d.sum) / b.base.toNat := by
   rw [← e3]
   rfl
  simp only [okT, costT, e1, e2, e3, e4]
  by_cases h1 : okT b may carry k t = true
  ·by_cases h2 : colOK may (b.places.toNat - 1 - k) b.cords.length d = true
   ·simp only [h1, h2, if_true, Bool.true_and]
   ·simp [h1, h2]
  ·simp [h1]
end Go.Proofs.YtpangdaijhiohaaGreatDoor.Kn

set_option linter.unusedSimpArgs false
set_option linter.unusedVariables false
set_option linter.unnecessarySimpa false
namespace Go.Proofs.YtpangdaijhiohaaGreatDoor.Kn
open Go Go.V
def isum (n : Nat) (f : Nat → Int) : Int := (List.range n).foldl (fun a i => a + f i) 0
theorem isum_zero (f : Nat → Int) : isum 0 f = 0 := rfl
theorem isum_succ (n : Nat) (f : Nat → Int) : isum (n + 1) f = isum n f + f n := by
 unfold isum
 rw [List.range_succ, List.foldl_append]
 rfl
theorem isum_congr {n : Nat} {f g : Nat → Int} (h : ∀ i, i < n → f i = g i) : isum n f = isum n g := by
 induction n with
 | zero => rfl
 | succ n ih => rw [isum_succ, isum_succ, ih fun i hi => h i (by omega), h n (by omega)]
theorem isum_add (n : Nat) (f g : Nat → Int) : (isum n fun i => f i + g i) = isum n f + isum n g := by
 induction n with
 | zero => rfl
 | succ n ih => rw [isum_succ, isum_succ, isum_succ, ih]; omega
theorem isum_const0 (n : Nat) : (isum n fun _ => 0) = 0 := by
 induction n with
 | zero => rfl
 | succ n ih => rw [isum_succ, ih]; rfl
theorem isum_comm (n m : Nat) (f : Nat → Nat → Int) : (isum n fun i => isum m (f i)) = isum m fun j => isum n fun i => f i j := by
 induction n with
 | zero =>
  have : (isum m fun j => isum 0 fun i => f i j) = isum m fun _ => 0 := isum_congr fun j _ => rfl
  rw [this, isum_const0]; rfl
 | succ n ih =>
  rw [isum_succ, ih, ← isum_add]
  exact isum_congr fun j _ => by rw [isum_succ]
theorem isum_nonneg {n : Nat} {f : Nat → Int} (h : ∀ i, i < n → 0 ≤ f i) : 0 ≤ isum n f := by
 induction n with
 | zero => exact Int.le_refl _
 | succ n ih =>
  rw [isum_succ]
  have := ih fun i hi => h i (by omega)
  have := h n (by omega)
  omega
theorem isum_eq0 {n : Nat} {f : Nat → Int} (h : ∀ i, i < n → 0 ≤ f i) : isum n f = 0 ↔ ∀ i, i < n → f i = 0 := by
 induction n with
 | zero => exact ⟨fun _ i hi => by omega, fun _ => rfl⟩
 | succ n ih =>
  rw [isum_succ]
  have h1 := isum_nonneg (n := n) (f := f) fun i hi => h i (by omega)
  have h2 := h n (by omega)
  have ih := ih fun i hi => h i (by omega)
  constructor
  ·intro e i hi
   rcases Nat.lt_or_ge i n with hl | hl
   ·exact ih.1 (by omega) i hl
   ·have : i = n := by omega
    subst this
    omega
  ·intro e
   have := ih.2 fun i hi => e i (by omega)
   have := e n (by omega)
   omega
theorem sum_divmod (N : Nat) (t : List Nat) : t.sum = (t.map (· / N)).sum * N + (t.map (· % N)).sum := by
 induction t with
 | nil => simp
 | cons x r ih =>
  simp only [List.sum_cons, List.map_cons, Nat.add_mul]
  have := Nat.div_add_mod x N
  rw [Nat.mul_comm] at this
  omega
theorem sum_div {N : Nat} (hN : 0 < N) (t : List Nat) : (t.map (· / N)).sum + (t.map (· % N)).sum / N = t.sum / N := by
 rw [sum_divmod N t, Nat.mul_comm, Nat.mul_add_div hN]
theorem sum_mod (N : Nat) (t : List Nat) : (t.map (· % N)).sum % N = t.sum % N := by
 rw [sum_divmod N t, Nat.mul_comm, Nat.mul_add_mod]
theorem carT_eq {B : Nat} (hB : 0 < B) : ∀ (k : Nat) (t : List Nat), (∀ x ∈ t, x < B ^ k) → carT B k t = t.sum / B ^ k
 | 0, t, h => by
  have : t.sum = 0 := by
   induction t with
   | nil => rfl
   | cons x r ih =>
    have := h x (by simp)
    rw [List.sum_cons, ih fun y hy => h y (by simp [hy])]
    simp at this
    omega
  simp [carT, this]
 | k + 1, t, h => by
  have hp : 0 < B ^ k := Nat.pow_pos hB
  rw [carT, carT_eq hB k _ (fun x hx => by
   obtain ⟨y, _, rfl⟩ := List.mem_map.1 hx
   exact Nat.mod_lt _ hp), sum_div hp, Nat.div_div_eq_div_mul, Nat.pow_succ]
theorem colT_eq {B : Nat} (hB : 0 < B) (k : Nat) (t : List Nat) : colT B k t = t.sum / B ^ k := by
 have hp : 0 < B ^ k := Nat.pow_pos hB
 rw [colT, carT_eq hB k _ (fun x hx => by
   obtain ⟨y, _, rfl⟩ := List.mem_map.1 hx
   exact Nat.mod_lt _ hp), sum_div hp]
theorem map_mod_mod {B k K : Nat} (h : k ≤ K) (t : List Nat) : (t.map (· % B ^ K)).map (· % B ^ k) = t.map (· % B ^ k) := by
 rw [List.map_map]
 apply List.map_congr_left
 intro x _
 exact Nat.mod_mod_of_dvd x (Nat.pow_dvd_pow B h)
theorem map_mod_self {N : Nat} {t : List Nat} (h : ∀ x ∈ t, x < N) : t.map (· % N) = t := by
 induction t with
 | nil => rfl
 | cons x r ih => rw [List.map_cons, Nat.mod_eq_of_lt (h x (by simp)), ih fun y hy => h y (by simp [hy])]
def dgN (b : Bk) (l : List Nat) (c p : Nat) : Nat := (l[c]?.getD default) / b.base.toNat ^ (b.places.toNat - 1 - p) % b.base.toNat
def carN (b : Bk) (l : List Nat) (p : Nat) : Nat := ((l.take b.cords.length).map (· % b.base.toNat ^ (b.places.toNat - p))).sum / b.base.toNat ^ (b.places.toNat - p)
def allOK (b : Bk) (may : Nat → Nat → Nat → Bool) (carry : Nat → Nat → Bool) (l : List Nat) : Bool :=
 (List.range b.places.toNat).all fun p => ((List.range (b.cords.length + 1)).all fun c => may c p (dgN b l c p)) && carry p (carN b l p)
def cordSp (b : Bk) (c p : Nat) : Sp := (cordAt b c)[p]?.getD default
def costN (b : Bk) (l : List Nat) : Int := isum (b.cords.length + 1) fun c => isum b.places.toNat fun p => costL (cordSp b c p) (dgN b l c p : Nat)
def okP (b : Bk) (may : Nat → Nat → Nat → Bool) (carry : Nat → Nat → Bool) (k : Nat) (u : List Nat) : Bool :=
 colOK may (b.places.toNat - 1 - k) b.cords.length (u.map (· / b.base.toNat ^ k)) &&
   (may b.cords.length (b.places.toNat - 1 - k) (colT b.base.toNat k u % b.base.toNat) && carry (b.places.toNat - 1 - k) (colT b.base.toNat k u / b.base.toNat))
def costP (b : Bk) (k : Nat) (u : List Nat) : Int :=
 colCost b (b.places.toNat - 1 - k) b.cords.length (u.map (· / b.base.toNat ^ k)) + costL (topAt b (b.places.toNat - 1 - k)) (colT b.base.toNat k u % b.base.toNat : Nat)
theorem okT_places (b : Bk) (may : Nat → Nat → Nat → Bool) (carry : Nat → Nat → Bool) : ∀ (K : Nat) (t : List Nat), (∀ x ∈ t, x < b.base.toNat ^ K) →
  (okT b may carry K t = true ↔ ∀ k, k < K → okP b may carry k (t.map (· % b.base.toNat ^ (k + 1))) = true)
 | 0, t, _ => ⟨fun _ k hk => by omega, fun _ => rfl⟩
 | K + 1, t, h => by
  by_cases hB : b.base.toNat = 0
  ·-- no number is below 0
   cases t with
   | nil =>
    have ih := okT_places b may carry K [] (by simp)
    show (okT b may carry K ([].map _) && okP b may carry K []) = true ↔ _
    rw [Bool.and_eq_true]
    simp only [List.map_nil] at ih ⊢
    rw [ih]
    constructor
    ·rintro ⟨h1, h2⟩ k hk
     rcases Nat.lt_or_ge k K with hl | hl
     ·exact h1 k hl
     ·have : k = K := by omega
      subst this
      exact h2
    ·intro h1
     exact ⟨fun k hk => h1 k (by omega), h1 K (by omega)⟩
   | cons x r =>
    have := h x (by simp)
    rw [hB, Nat.zero_pow (by omega)] at this
    omega
  ·have hp : 0 < b.base.toNat ^ K := Nat.pow_pos (by omega)
   have ih := okT_places b may carry K (t.map (· % b.base.toNat ^ K)) (fun x hx => by
    obtain ⟨y, _, rfl⟩ := List.mem_map.1 hx
    exact Nat.mod_lt _ hp)
   show (okT b may carry K (t.map (· % b.base.toNat ^ K)) && okP b may carry K t) = true ↔ _
   rw [Bool.and_eq_true, ih]
   constructor
   ·rintro ⟨h1, h2⟩ k hk
    rcases Nat.lt_or_ge k K with hl | hl
    ·have := h1 k hl
     rwa [map_mod_mod (by omega)] at this
    ·have : k = K := by omega
     subst this
     rw [map_mod_self h]
     exact h2
   ·intro h1
    refine ⟨fun k hk => ?_, ?_⟩
    ·rw [map_mod_mod (by omega)]
     exact h1 k (by omega)
    ·have := h1 K (by omega)
     rwa [map_mod_self h] at this
theorem costT_places (b : Bk) (hB : 0 < b.base.toNat) : ∀ (K : Nat) (t : List Nat), (∀ x ∈ t, x < b.base.toNat ^ K) →
  costT b K t = isum K fun k => costP b k (t.map (· % b.base.toNat ^ (k + 1)))
 | 0, t, _ => rfl
 | K + 1, t, h => by
  have hp : 0 < b.base.toNat ^ K := Nat.pow_pos hB
  have ih := costT_places b hB K (t.map (· % b.base.toNat ^ K)) (fun x hx => by
    obtain ⟨y, _, rfl⟩ := List.mem_map.1 hx
    exact Nat.mod_lt _ hp)
  rw [isum_succ, map_mod_self h, costT, ih, Int.add_assoc]
  rw [show costP b K t = _ from rfl, costP]
  congr 1
  exact isum_congr fun k hk => by rw [map_mod_mod (by omega)]
theorem place_digits {b : Bk} (hB : 0 < b.base.toNat) {t : List Nat} (ht : t.length = b.cords.length) {k : Nat} (hk : k < b.places.toNat) :
  (∀ c, c < b.cords.length → ((t.map (· % b.base.toNat ^ (k + 1))).map (· / b.base.toNat ^ k))[c]?.getD default = dgN b (t ++ [t.sum]) c (b.places.toNat - 1 - k)) ∧
  colT b.base.toNat k (t.map (· % b.base.toNat ^ (k + 1))) % b.base.toNat = dgN b (t ++ [t.sum]) b.cords.length (b.places.toNat - 1 - k) ∧
  colT b.base.toNat k (t.map (· % b.base.toNat ^ (k + 1))) / b.base.toNat = carN b (t ++ [t.sum]) (b.places.toNat - 1 - k) := by
 have e0 : b.places.toNat - 1 - (b.places.toNat - 1 - k) = k := by omega
 have e1 : b.places.toNat - (b.places.toNat - 1 - k) = k + 1 := by omega
 refine ⟨fun c hc => ?_, ?_, ?_⟩
 ·have hc2 : c < t.length := by omega
  unfold dgN
  rw [e0, List.getElem?_append_left hc2]
  simp only [List.getElem?_map, List.getElem?_eq_getElem hc2, Option.map_some, Option.getD_some]
  rw [Nat.pow_succ, Nat.mod_mul_right_div_self]
 ·unfold dgN
  rw [colT_eq hB, e0, ← ht, List.getElem?_append_right (Nat.le_refl _)]
  simp only [Nat.sub_self, List.getElem?_cons_zero, Option.getD_some]
  rw [← Nat.mod_mul_right_div_self, ← Nat.mod_mul_right_div_self, ← Nat.pow_succ, sum_mod]
 ·unfold carN
  rw [colT_eq hB, e1, ← ht, List.take_left, Nat.div_div_eq_div_mul, ← Nat.pow_succ]
theorem okT_all {b : Bk} (hB : 0 < b.base.toNat) (may : Nat → Nat → Nat → Bool) (carry : Nat → Nat → Bool) {t : List Nat} (ht : t ∈ tup b.cords.length (b.base.toNat ^ b.places.toNat)) :
  okT b may carry b.places.toNat t = allOK b may carry (t ++ [t.sum]) := by
 obtain ⟨hl, hlt⟩ := tup_mem.1 ht
 rw [Bool.eq_iff_iff, okT_places b may carry _ t hlt]
 unfold allOK
 rw [List.all_eq_true]
 have key : ∀ k, k < b.places.toNat → (okP b may carry k (t.map (· % b.base.toNat ^ (k + 1))) = true ↔
   (((List.range (b.cords.length + 1)).all fun c => may c (b.places.toNat - 1 - k) (dgN b (t ++ [t.sum]) c (b.places.toNat - 1 - k))) && carry (b.places.toNat - 1 - k) (carN b (t ++ [t.sum]) (b.places.toNat - 1 - k))) = true) := by
  intro k hk
  obtain ⟨d1, d2, d3⟩ := place_digits hB hl hk
  unfold okP colOK
  rw [d2, d3]
  simp only [Bool.and_eq_true, List.all_eq_true, List.mem_range]
  constructor
  ·rintro ⟨h1, h2, h3⟩
   refine ⟨fun c hc => ?_, h3⟩
   rcases Nat.lt_or_ge c b.cords.length with h | h
   ·rw [← d1 c h]; exact h1 c h
   ·rw [show c = b.cords.length by omega]; exact h2
  ·rintro ⟨h1, h3⟩
   exact ⟨fun c hc => by rw [d1 c hc]; exact h1 c (by omega), h1 _ (by omega), h3⟩
 constructor
 ·intro h p hp
  have hp := List.mem_range.1 hp
  have := (key (b.places.toNat - 1 - p) (by omega)).1 (h _ (by omega))
  rwa [show b.places.toNat - 1 - (b.places.toNat - 1 - p) = p by omega] at this
 ·intro h k hk
  exact (key k hk).2 (h _ (List.mem_range.2 (by omega)))
theorem isum_rev (n : Nat) (f : Nat → Int) : (isum n fun k => f (n - 1 - k)) = isum n f := by
 have key : ∀ m, m ≤ n → (isum m fun k => f (n - 1 - k)) + isum (n - m) f = isum n f := by
  intro m
  induction m with
  | zero => intro _; rw [isum_zero, Nat.sub_zero, Int.zero_add]
  | succ m ih =>
   intro h
   have := ih (by omega)
   rw [isum_succ]
   rw [show n - m = (n - (m + 1)) + 1 by omega, isum_succ] at this
   rw [show n - 1 - m = n - (m + 1) by omega]
   omega
 have := key n (Nat.le_refl _)
 rw [Nat.sub_self, isum_zero] at this
 omega
theorem costT_all {b : Bk} (hB : 0 < b.base.toNat) {t : List Nat} (ht : t ∈ tup b.cords.length (b.base.toNat ^ b.places.toNat)) :
  costT b b.places.toNat t = costN b (t ++ [t.sum]) := by
 obtain ⟨hl, hlt⟩ := tup_mem.1 ht
 rw [costT_places b hB _ t hlt]
 unfold costN
 rw [isum_comm]
 refine Eq.trans (isum_congr fun k hk => ?_) (isum_rev b.places.toNat _)
 obtain ⟨d1, d2, d3⟩ := place_digits hB hl hk
 unfold costP
 rw [d2, isum_succ]
 have e2 : cordSp b b.cords.length (b.places.toNat - 1 - k) = topAt b (b.places.toNat - 1 - k) := by simp [cordSp, cordAt, topAt]
 rw [e2]
 congr 1
 show isum b.cords.length _ = _
 refine isum_congr fun c hc => ?_
 rw [d1 c hc]
 have : cordSp b c (b.places.toNat - 1 - k) = spAt b c (b.places.toNat - 1 - k) := by
  unfold cordSp cordAt spAt
  rw [if_neg (by omega)]
 rw [this]
theorem tieN_at (B : Nat) : ∀ (P n p : Nat), p < P → (tieN B P n)[p]?.getD default = ((n / B ^ (P - 1 - p) % B : Nat) : Int)
 | 0, _, _, h => by omega
 | P + 1, n, p, h => by
  rcases Nat.lt_or_ge p P with hl | hl
  ·rw [tieN, List.getElem?_append_left (by rw [tieN_len]; exact hl), tieN_at B P _ p hl, Nat.div_div_eq_div_mul, Nat.mul_comm, ← Nat.pow_succ]
   congr 4
   omega
  ·have : p = P := by omega
   subst this
   rw [tieN, List.getElem?_append_right (by rw [tieN_len]; omega), tieN_len]
   simp
theorem costL_zero {s : Sp} {d : Int} : costL s d = 0 ↔ within d s.lo s.hi = true := by
 unfold costL within
 simp only [decide_eq_true_eq]
 omega
theorem fits_cost {b : Bk} (hv : Val b) {c : Nat} (hc : c ≤ b.cords.length) (l : List Nat) : fitsL (cordAt b c) (tieN b.base.toNat b.places.toNat (l[c]?.getD default)) = true ↔ (isum b.places.toNat fun p => costL (cordSp b c p) (dgN b l c p : Nat)) = 0 := by
 have hlen := (cordAt_val hv hc).1
 rw [isum_eq0 fun p _ => costL_nonneg _ _]
 unfold fitsL
 rw [List.all_eq_true]
 have hl2 : (cordAt b c).length = b.places.toNat := by omega
 rw [hl2]
 constructor
 ·intro h p hp
  have := h p (List.mem_range.2 hp)
  rw [tieN_at _ _ _ _ hp] at this
  exact costL_zero.2 this
 ·intro h p hp
  have hp := List.mem_range.1 hp
  rw [tieN_at _ _ _ _ hp]
  exact costL_zero.1 (h p hp)
theorem sumF_sumsN (b : Bk) (freely : Bool) : ∀ (k : Nat) (first : List Nat) (g : List Nat → Nat),
  sumF (sumsN b freely k first) g = sumF (tup k (allN b)) fun t => if ((List.range k).all fun c => isN b (first.length + c) freely (t[c]?.getD default)) && (decide ((first ++ t).sum < allN b) && (freely || fitsL b.top (tieN b.base.toNat b.places.toNat (first ++ t).sum))) then g (first ++ t ++ [(first ++ t).sum]) else 0
 | 0, first, g => by
  simp only [sumsN, tup, sumF_cons, sumF_nil, List.range_zero, List.all_nil, Bool.true_and, List.append_nil, Nat.add_zero]
  split
  ·rw [sumF_cons, sumF_nil, Nat.add_zero]
  ·rfl
 | k + 1, first, g => by
  rw [sumsN, sumF_flatMap, sumF_filter, sumF_tup_succ]
  refine sumF_congr fun n _ => ?_
  rw [sumF_sumsN b freely k (first ++ [n]) g, sumF_if]
  refine sumF_congr fun t _ => ?_
  have e : ((List.range (k + 1)).all fun c => isN b (first.length + c) freely ((n :: t)[c]?.getD default)) = (isN b first.length freely n && (List.range k).all fun c => isN b ((first ++ [n]).length + c) freely (t[c]?.getD default)) := by
   rw [List.range_succ_eq_map, List.all_cons, List.all_map]
   simp only [Nat.add_zero, List.getElem?_cons_zero, Option.getD_some]
   congr 2
   funext c
   simp only [Function.comp_apply, List.getElem?_cons_succ, List.length_append, List.length_cons, List.length_nil]
   rw [show first.length + c.succ = first.length + (0 + 1) + c by omega]
  rw [e]
  simp only [List.append_assoc, List.singleton_append]
  by_cases h : isN b first.length freely n = true
  ·simp [h]
  ·simp [h]
theorem solveL_r {b : Bk} (hv : Val b) (may : Nat → Nat → Nat → Bool) (carry : Nat → Nat → Bool) :
  (solveL b may carry).r = ((sumF (allNs b) fun l => if allOK b may carry l then 1 else 0 : Nat) : Int) := by
 have hB : 0 < b.base.toNat := by have := hv.hb; omega
 have hp : 0 < b.base.toNat ^ b.places.toNat := Nat.pow_pos hB
 rw [(solveL_sem hv may carry).1]
 have h0 := solveW_LK b may carry b.places.toNat (Nat.le_refl _)
 rw [Nat.sub_self] at h0
 rw [show [((0 : Nat), (0 : Int))] = LK b may carry 0 from rfl, h0, sumF_LK, allNs, sumF_sumsN]
 congr 1
 refine sumF_congr fun t ht => ?_
 have hl := (tup_mem.1 ht).1
 rw [okT_all hB may carry ht, costT_all hB ht, carT_eq hB _ _ (tup_mem.1 ht).2]
 simp only [List.nil_append, Bool.false_or, List.length_nil, Nat.zero_add]
 have e1 : t.sum / b.base.toNat ^ b.places.toNat = 0 ↔ t.sum < allN b := by
  unfold allN
  rw [Nat.div_eq_zero_iff]
  constructor
  ·rintro (h | h)
   ·omega
   ·exact h
  ·exact .inr
 have hnn : ∀ c, 0 ≤ isum b.places.toNat fun p => costL (cordSp b c p) (dgN b (t ++ [t.sum]) c p : Nat) := fun c => isum_nonneg fun p _ => costL_nonneg _ _
 have e2 : costN b (t ++ [t.sum]) = 0 ↔ (((List.range b.cords.length).all fun c => isN b c false (t[c]?.getD default)) && fitsL b.top (tieN b.base.toNat b.places.toNat t.sum)) = true := by
  unfold costN
  rw [isum_eq0 fun c _ => hnn c, Bool.and_eq_true, List.all_eq_true]
  have k1 : ∀ c, c < b.cords.length → (t ++ [t.sum])[c]?.getD default = t[c]?.getD default := fun c hc => by rw [List.getElem?_append_left (by omega)]
  have k2 : (t ++ [t.sum])[b.cords.length]?.getD default = t.sum := by rw [← hl, List.getElem?_append_right (Nat.le_refl _)]; simp
  constructor
  ·intro h
   refine ⟨fun c hc => ?_, ?_⟩
   ·have hc := List.mem_range.1 hc
    unfold isN
    rw [Bool.false_or, ← k1 c hc]
    exact (fits_cost hv (by omega) _).2 (h c (by omega))
   ·have := (fits_cost hv (Nat.le_refl _) (t ++ [t.sum])).2 (h _ (by omega))
    rw [k2] at this
    simpa [cordAt] using this
  ·rintro ⟨h1, h2⟩ c hc
   rcases Nat.lt_or_ge c b.cords.length with h | h
   ·have := h1 c (List.mem_range.2 h)
    unfold isN at this
    rw [Bool.false_or, ← k1 c h] at this
    exact (fits_cost hv (by omega) _).1 this
   ·have hc2 : c = b.cords.length := by omega
    subst hc2
    refine (fits_cost hv (Nat.le_refl _) (t ++ [t.sum])).1 ?_
    rw [k2]
    simpa [cordAt] using h2
 simp only [e1, e2]
 by_cases q1 : allOK b may carry (t ++ [t.sum]) = true
 ·simp only [q1, if_true]
  by_cases q2 : t.sum < allN b
  ·simp only [q2, true_and, decide_true, Bool.true_and]
  ·simp [q2]
 ·simp [q1]
end Go.Proofs.YtpangdaijhiohaaGreatDoor.Kn

set_option linter.unusedSimpArgs false
set_option linter.unusedVariables false
set_option linter.unnecessarySimpa false
namespace Go.Proofs.YtpangdaijhiohaaGreatDoor.Kn
open Go Go.V
def bkK : Bk := ⟨10, 2, [[⟨1, 1⟩, ⟨2, 3⟩], [⟨0, 1⟩, ⟨5, 5⟩]], [⟨2, 2⟩, ⟨7, 8⟩]⟩
def bkL : Bk := ⟨10, 1, [[⟨3, 3⟩], [⟨4, 4⟩]], [⟨9, 9⟩]⟩
theorem ckK : checkB bkK = true := by kernel_rfl
theorem smK : Small bkK := ⟨by decide, by decide, by decide⟩
theorem allK : allNs bkK = [[12, 15, 27], [13, 15, 28]] := by kernel_rfl
def manyR (b : Bk) (L : List (List Nat)) (may : Nat → Nat → Nat → Bool) (carry : Nat → Nat → Bool) (c p d : Nat) : Int := ((sumF L fun l => if allOK b (onlyF may c p d) carry l then 1 else 0 : Nat) : Int)
def spanR (b : Bk) (L : List (List Nat)) (may : Nat → Nat → Nat → Bool) (carry : Nat → Nat → Bool) (cord place : Nat) (m : Nat) : Sp :=
 (List.range m).foldl (fun s d => if 0 < manyR b L may carry cord place d then ⟨min s.lo d, max s.hi d⟩ else s) ⟨b.base, 0⟩
def endR (b : Bk) (L : List (List Nat)) (carry : Nat → Nat → Bool) (cord : Nat) (sel : Sp → Int) : Nat → Nat → (Nat → Nat → Nat → Bool) → Int → Int
 | _, 0, _, n => n
 | p, k + 1, may, n => endR b L carry cord sel (p + 1) k (onlyF may cord p (sel (spanR b L may carry cord p b.base.toNat)).toNat) (numL b.base [n, sel (spanR b L may carry cord p b.base.toNat)])
theorem manyD_R {b : Bk} (hv : Val b) (may : Nat → Nat → Nat → Bool) (carry : Nat → Nat → Bool) (c p d : Nat) : manyD b may carry c p d = manyR b (allNs b) may carry c p d := solveL_r hv _ _
theorem spanD_R {b : Bk} (hv : Val b) (may : Nat → Nat → Nat → Bool) (carry : Nat → Nat → Bool) (c p m : Nat) : spanD b may carry c p m = spanR b (allNs b) may carry c p m := by
 unfold spanD spanR
 congr 1
 funext s d
 rw [manyD_R hv]
theorem endF_R {b : Bk} (hv : Val b) (carry : Nat → Nat → Bool) (cord : Nat) (sel : Sp → Int) : ∀ (k p : Nat) (may : Nat → Nat → Nat → Bool) (n : Int), endF b carry cord sel p k may n = endR b (allNs b) carry cord sel p k may n
 | 0, _, _, _ => rfl
 | k + 1, p, may, n => by
  rw [endF, endR, spanD_R hv, endF_R hv carry cord sel k]
theorem ag25 : aggOf Tryz.prog 25 = some true := by kernel_rfl
theorem sz25 : szOf Tryz.prog 25 = some 4 := by kernel_rfl
attribute [go_sem] ag25 sz25
theorem c44 : Ctr Tryz.prog 44 [] (.tup [KB bkK, KB bkL]) := by
 refine ctr_of_wp hmix Tryz.func44 m44 rfl ?_
 unfold v44
 simp -failIfUnchanged (disch := first|omega|(simp [wcs_len]<;>omega)|fail) only [go_sem,simprocAttr]
 try rfl
end Go.Proofs.YtpangdaijhiohaaGreatDoor.Kn

set_option linter.unusedSimpArgs false
set_option linter.unusedVariables false
set_option linter.unnecessarySimpa false
namespace Go.Proofs.YtpangdaijhiohaaGreatDoor.Kn
open Go Go.V
def hugeB (b : Bk) : Bool := decide (40 < (b.cords.length : Int)) || (decide (40 < (b.top.length : Int)) || b.cords.any fun l => decide (40 < (l.length : Int)))
theorem c40 (b : Bk) (h1 : b.cords.length < 9223372036854775808) : Ctr Tryz.prog 40 [KB b] (.bool (hugeB b)) := by
 refine ctr_of_wp hmix Tryz.func40 m40 rfl ?_
 unfold v40 hugeB
 simp -failIfUnchanged (disch := first|omega|(simp [wcs_len]<;>omega)|fail) only [go_sem,simprocAttr]
 refine WGd_bool (fun h => ?_) (fun h => ?_)
 ·simp -failIfUnchanged (disch := first|omega|(simp [wcs_len]<;>omega)|fail) only [go_sem,simprocAttr, h]
  refine wcond_dec (fun h2 => ?_) (fun h2 => ?_)
  ·simp -failIfUnchanged (disch := first|omega|(simp [wcs_len]<;>omega)|fail) only [go_sem,simprocAttr, h2]
  ·have h40 : ¬ 40 < (b.cords.length : Int) := by
    simpa using h
   simp -failIfUnchanged (disch := first|omega|(simp [wcs_len]<;>omega)|fail) only [go_sem,simprocAttr, h2]
   refine wp_loop' Nat (fun i => ⟨[(1, .ptr 1 0), (3, .int i)], [(1, ⟨[.int b.base, .int b.places, .sl 1 (b.cords.map SS) .sh, SS b.top], false⟩)], [], none⟩) (fun i => i ≤ b.cords.length ∧ ∀ x ∈ b.cords.take i, decide (40 < (x.length : Int)) = false) (fun i => b.cords.length - i) 0 (by simp) (by simp -failIfUnchanged (disch := first|omega|(simp [wcs_len]<;>omega)|fail) only [go_sem,simprocAttr]; try rfl) ?_
   rintro i ⟨hi, hpre⟩
   simp -failIfUnchanged (disch := first|omega|(simp [wcs_len]<;>omega)|fail) only [go_sem,simprocAttr]
   refine wcond_dec (fun h3 => ?_) (fun h3 => ?_)
   ·have hlt : i < b.cords.length := by omega
    simp -failIfUnchanged (disch := first|omega|(simp [wcs_len]<;>omega)|fail) only [go_sem,simprocAttr]
    refine wcond_dec (fun h4 => ?_) (fun h4 => ?_)
    ·simp -failIfUnchanged (disch := first|omega|(simp [wcs_len]<;>omega)|fail) only [go_sem,simprocAttr]
     have : b.cords.any (fun l => decide (40 < (l.length : Int))) = true := List.any_eq_true.2 ⟨_, mem_getD hlt, by simpa using h4⟩
     simp [this]
    ·simp -failIfUnchanged (disch := first|omega|(simp [wcs_len]<;>omega)|fail) only [go_sem,simprocAttr]
     refine ⟨i + 1, ⟨by omega, take_succ_all hlt hpre (by simpa using h4)⟩, by dsimp only; omega, ?_⟩
     simp -failIfUnchanged (disch := first|omega|(simp [wcs_len]<;>omega)|fail) only [go_sem,simprocAttr]
     try simp
   ·simp -failIfUnchanged (disch := first|omega|(simp [wcs_len]<;>omega)|fail) only [go_sem,simprocAttr]
    have e : i = b.cords.length := by omega
    have : b.cords.any (fun l => decide (40 < (l.length : Int))) = false := by
     rw [List.any_eq_false]
     intro x hx
     have := hpre x (by rw [e, List.take_length]; exact hx)
     simpa using this
    rw [this]
 ·simp -failIfUnchanged (disch := first|omega|(simp [wcs_len]<;>omega)|fail) only [go_sem,simprocAttr, h]
theorem small_of_huge {b : Bk} (h : hugeB b = false) : b.cords.length ≤ 40 ∧ b.top.length ≤ 40 ∧ ∀ l ∈ b.cords, l.length ≤ 40 := by
 simp only [hugeB, Bool.or_eq_false_iff, decide_eq_false_iff_not, List.any_eq_false, decide_eq_true_eq] at h
 obtain ⟨h1, h2, h3⟩ := h
 exact ⟨by omega, by omega, fun l hl => by have := h3 l hl; omega⟩
theorem small_small {b : Bk} (h : hugeB b = false) : Small b := by
 obtain ⟨h1, h2, h3⟩ := small_of_huge h
 exact ⟨by omega, by omega, fun l hl => by have := h3 l hl; omega⟩
theorem ag25' : aggOf Tryz.prog 25 = some true := by kernel_rfl
theorem sz25' : szOf Tryz.prog 25 = some 4 := by kernel_rfl
attribute [go_sem] ag25' sz25'
end Go.Proofs.YtpangdaijhiohaaGreatDoor.Kn

set_option linter.unusedSimpArgs false
set_option linter.unusedVariables false
set_option linter.unnecessarySimpa false
namespace Go.Proofs.YtpangdaijhiohaaGreatDoor.Kn
open Go Go.V
theorem allOK_iff (b : Bk) (may : Nat → Nat → Nat → Bool) (carry : Nat → Nat → Bool) (l : List Nat) : allOK b may carry l = true ↔ ∀ p, p < b.places.toNat → (∀ c, c < b.cords.length + 1 → may c p (dgN b l c p) = true) ∧ carry p (carN b l p) = true := by
 unfold allOK
 simp only [List.all_eq_true, List.mem_range, Bool.and_eq_true]
theorem allOK_only {b : Bk} {may : Nat → Nat → Nat → Bool} {carry : Nat → Nat → Bool} {c p d : Nat} (hc : c ≤ b.cords.length) (hp : p < b.places.toNat) (l : List Nat) :
  allOK b (onlyF may c p d) carry l = (allOK b may carry l && decide (dgN b l c p = d)) := by
 rw [Bool.eq_iff_iff, Bool.and_eq_true, allOK_iff, allOK_iff, decide_eq_true_eq]
 constructor
 ·intro h
  refine ⟨fun q hq => ⟨fun e he => ?_, (h q hq).2⟩, ?_⟩
  ·have := (h q hq).1 e he
   simp only [onlyF, Bool.and_eq_true] at this
   exact this.1
  ·have := (h p hp).1 c (by omega)
   simp only [onlyF, Bool.and_eq_true, Bool.or_eq_true, decide_eq_true_eq] at this
   rcases this.2 with h | h | h
   ·exact absurd trivial h
   ·exact absurd trivial h
   ·exact h
 ·rintro ⟨h, h2⟩ q hq
  refine ⟨fun e he => ?_, (h q hq).2⟩
  simp only [onlyF, Bool.and_eq_true, (h q hq).1 e he, true_and, Bool.or_eq_true, decide_eq_true_eq]
  by_cases e1 : e = c
  ·by_cases e2 : q = p
   ·subst e1 e2; exact .inr (.inr h2)
   ·exact .inr (.inl e2)
  ·exact .inl e1
theorem allOK_yes (b : Bk) (l : List Nat) : allOK b yes3 yes2 l = true := by
 rw [allOK_iff]
 exact fun _ _ => ⟨fun _ _ => rfl, rfl⟩
theorem take_snoc {α : Type} [Inhabited α] {l : List α} {k : Nat} (h : k < l.length) : l.take (k + 1) = l.take k ++ [l[k]?.getD default] := by
 rw [List.take_add_one, List.getElem?_eq_getElem h]
 rfl
theorem many_len {b : Bk} (hv : Val b) : (solveL b yes3 yes2).r = (allNs b).length := by
 rw [solveL_r hv, ← sumF_len]
 congr 1
 exact sumF_congr fun l _ => by rw [allOK_yes]; rfl
end Go.Proofs.YtpangdaijhiohaaGreatDoor.Kn

set_option linter.unusedSimpArgs false
set_option linter.unusedVariables false
set_option linter.unnecessarySimpa false
namespace Go.Proofs.YtpangdaijhiohaaGreatDoor.Kn
open Go Go.V
end Go.Proofs.YtpangdaijhiohaaGreatDoor.Kn

set_option linter.unusedSimpArgs false
set_option linter.unusedVariables false
set_option linter.unnecessarySimpa false
namespace Go.Proofs.YtpangdaijhiohaaGreatDoor.Kn
open Go Go.V
end Go.Proofs.YtpangdaijhiohaaGreatDoor.Kn

set_option linter.unusedSimpArgs false
set_option linter.unusedVariables false
set_option linter.unnecessarySimpa false
namespace Go.Proofs.YtpangdaijhiohaaGreatDoor.Kn
open Go Go.V
theorem map_choose {α β γ : Type} {F : α → γ} {G : β → γ} {Q : β → Prop} : ∀ (es : List α), (∀ x ∈ es, ∃ s, F x = G s ∧ Q s) → ∃ l : List β, es.map F = l.map G ∧ l.length = es.length ∧ ∀ s ∈ l, Q s
 | [], _ => ⟨[], rfl, rfl, by simp⟩
 | x :: r, h => by
  obtain ⟨s, h1, h2⟩ := h x (by simp)
  obtain ⟨l, h3, h4, h5⟩ := map_choose r fun y hy => h y (by simp [hy])
  refine ⟨s :: l, by simp [h1, h3], by simp [h4], ?_⟩
  intro t ht
  rcases List.mem_cons.1 ht with rfl | ht
  ·exact h2
  ·exact h5 t ht
theorem ty_sp {cs : List AV} (h : Ty (.st [.int, .int]) cs) : ∃ s : Sp, cs = [.int s.lo, .int s.hi] := by
 simp only [Ty, TyL] at h
 obtain ⟨a, b, rfl, ⟨n, _, rfl⟩, c, d, rfl, ⟨m, _, rfl⟩, rfl⟩ := h
 exact ⟨⟨n, m⟩, rfl⟩
theorem ty_ss {cs : List AV} (h : Ty (.sl (.st [.int, .int])) cs) : ∃ l : List Sp, cs = [SS l] ∧ l.length < 9223372036854775808 := by
 rw [Ty] at h
 obtain ⟨es, rfl, h1, h2⟩ := h
 obtain ⟨l, h3, h4, _⟩ := map_choose (F := fun x => if TC.isSt (.st [.int, .int]) then AV.agg x else x[0]?.getD .und) (G := SP) (Q := fun _ => True) es (fun x hx => by
  obtain ⟨s, rfl⟩ := ty_sp (h2 x hx)
  exact ⟨s, rfl, trivial⟩)
 refine ⟨l, ?_, by omega⟩
 rw [h3]
 rfl
theorem ty_cs {cs : List AV} (h : Ty (.sl (.sl (.st [.int, .int]))) cs) : ∃ l : List (List Sp), cs = [.sl 1 (l.map SS) .sh] ∧ l.length < 9223372036854775808 ∧ ∀ x ∈ l, x.length < 9223372036854775808 := by
 rw [Ty] at h
 obtain ⟨es, rfl, h1, h2⟩ := h
 obtain ⟨l, h3, h4, h5⟩ := map_choose (F := fun x => if TC.isSt (.sl (.st [.int, .int])) then AV.agg x else x[0]?.getD .und) (G := SS) (Q := fun s => s.length < 9223372036854775808) es (fun x hx => by
  obtain ⟨s, rfl, hs⟩ := ty_ss (h2 x hx)
  exact ⟨s, rfl, hs⟩)
 refine ⟨l, ?_, by omega, h5⟩
 rw [h3]
 rfl
abbrev tcB : TC := .st [.int, .int, .sl (.sl (.st [.int, .int])), .sl (.st [.int, .int])]
theorem ty_book {av : AV} (h : TyV tcB av) : ∃ b : Bk, av = KB b ∧ b.cords.length < 9223372036854775808 ∧ b.top.length < 9223372036854775808 ∧ ∀ x ∈ b.cords, x.length < 9223372036854775808 := by
 obtain ⟨cs, rfl, h⟩ := h
 simp only [TyL] at h
 obtain ⟨a, x, rfl, ha, b, y, rfl, hb, c, z, rfl, hc, d, u, rfl, hd, rfl⟩ := h
 rw [Ty] at ha hb
 obtain ⟨n, _, rfl⟩ := ha
 obtain ⟨m, _, rfl⟩ := hb
 obtain ⟨l, rfl, h1, h2⟩ := ty_cs hc
 obtain ⟨t, rfl, h3⟩ := ty_ss hd
 exact ⟨⟨n, m, l, t⟩, rfl, h1, h3, h2⟩
end Go.Proofs.YtpangdaijhiohaaGreatDoor.Kn

set_option linter.unusedSimpArgs false
set_option linter.unusedVariables false
set_option linter.unnecessarySimpa false
namespace Go.Proofs.YtpangdaijhiohaaGreatDoor.Kn
open Go Go.V
end Go.Proofs.YtpangdaijhiohaaGreatDoor.Kn

set_option linter.unusedSimpArgs false
set_option linter.unusedVariables false
set_option linter.unnecessarySimpa false
namespace Go.Proofs.YtpangdaijhiohaaGreatDoor.Kn
open Go Go.V
end Go.Proofs.YtpangdaijhiohaaGreatDoor.Kn

set_option linter.unusedSimpArgs false
set_option linter.unusedVariables false
set_option linter.unnecessarySimpa false
namespace Go.Proofs.YtpangdaijhiohaaGreatDoor.Kn
open Go Go.V
end Go.Proofs.YtpangdaijhiohaaGreatDoor.Kn

set_option linter.unusedSimpArgs false
set_option linter.unusedVariables false
set_option linter.unnecessarySimpa false
namespace Go.Proofs.YtpangdaijhiohaaGreatDoor.Kn
open Go Go.V
end Go.Proofs.YtpangdaijhiohaaGreatDoor.Kn

set_option linter.unusedSimpArgs false
set_option linter.unusedVariables false
set_option linter.unnecessarySimpa false
namespace Go.Proofs.YtpangdaijhiohaaGreatDoor.Kn
open Go Go.V
end Go.Proofs.YtpangdaijhiohaaGreatDoor.Kn

set_option linter.unusedSimpArgs false
set_option linter.unusedVariables false
set_option linter.unnecessarySimpa false
namespace Go.Proofs.YtpangdaijhiohaaGreatDoor.Kn
open Go Go.V
def wS (s : Sp) : Nat := (s.hi - s.lo + 1).toNat
def prodS (l : List Sp) : Nat := l.foldl (fun n s => n * wS s) 1
def farN (b : Bk) (i : Nat) : Nat := (b.cords.take i).foldl (fun n l => n * prodS l) 1
def farP (b : Bk) : Bool := (List.range b.cords.length).any fun i => (List.range (b.cords[i]?.getD default).length).any fun p => decide (400 < farN b i * prodS ((b.cords[i]?.getD default).take (p + 1)))
def farB (b : Bk) : Bool := hugeB b || (checkB b && (farP b || decide (1000 < allN b)))
theorem prodS_snoc (l : List Sp) (s : Sp) : prodS (l ++ [s]) = prodS l * wS s := by
 simp [prodS, List.foldl_append]
theorem farN_succ (b : Bk) {i : Nat} (h : i < b.cords.length) : farN b (i + 1) = farN b i * prodS (b.cords[i]?.getD default) := by
 unfold farN
 rw [take_snoc h, List.foldl_append]
 rfl
end Go.Proofs.YtpangdaijhiohaaGreatDoor.Kn

set_option linter.unusedSimpArgs false
set_option linter.unusedVariables false
set_option linter.unnecessarySimpa false
namespace Go.Proofs.YtpangdaijhiohaaGreatDoor.Kn
open Go Go.V
theorem c6 (b : Bk) (h1 : b.cords.length < 9223372036854775808) : Ctr Tryz.prog 6 [KB b] (.bool (farB b)) := by
 refine ctr_of_wp hmix Tryz.func6 m6 rfl ?_
 unfold v6 farB
 simp -failIfUnchanged (disch := first|omega|(simp [wcs_len]<;>omega)|fail) only [go_sem,simprocAttr]
 refine wcall (c40 b h1) ?_
 cases hh : hugeB b with
 | true => simp -failIfUnchanged (disch := first|omega|(simp [wcs_len]<;>omega)|fail) only [go_sem,simprocAttr]
 | false =>
  have hs := small_small hh
  obtain ⟨k1, k2, k3⟩ := small_of_huge hh
  simp -failIfUnchanged (disch := first|omega|(simp [wcs_len]<;>omega)|fail) only [go_sem,simprocAttr]
  refine wcall (c7 b hs) ?_
  cases hc : checkB b with
  | false => simp -failIfUnchanged (disch := first|omega|(simp [wcs_len]<;>omega)|fail) only [go_sem,simprocAttr]
  | true =>
   have hv := val_of_check hc
   have hbb := hv.hb
   simp -failIfUnchanged (disch := first|omega|(simp [wcs_len]<;>omega)|fail) only [go_sem,simprocAttr]
   refine wp_loop' Nat (fun i => ⟨[(1, .ptr 1 0), (3, .int (farN b i)), (4, .int i)], [(1, ⟨[.int b.base, .int b.places, .sl 1 (b.cords.map SS) .sh, SS b.top], false⟩)], [], none⟩) (fun i => i ≤ b.cords.length ∧ farN b i ≤ 400 ∧ ∀ j, j < i → ((List.range (b.cords[j]?.getD default).length).any fun p => decide (400 < farN b j * prodS ((b.cords[j]?.getD default).take (p + 1)))) = false) (fun i => b.cords.length - i) 0 ⟨by simp, by simp [farN], by simp⟩ (by simp -failIfUnchanged (disch := first|omega|(simp [wcs_len]<;>omega)|fail) only [go_sem,simprocAttr]; try simp [farN]) ?_
   rintro i ⟨hi, hn, hpre⟩
   simp -failIfUnchanged (disch := first|omega|(simp [wcs_len]<;>omega)|fail) only [go_sem,simprocAttr]
   refine wcond_dec (fun h5 => ?_) (fun h5 => ?_)
   ·have hlt : i < b.cords.length := by omega
    have hcv := cordAt_val hv (n := i) (by omega)
    have hci : cordAt b i = b.cords[i]?.getD default := by
     unfold cordAt
     rw [if_neg (by omega)]
    have hl3 := k3 _ (mem_getD hlt)
    have hfs := farN_succ b hlt
    rw [hci] at hcv
    have hyes : ∀ p, p < (b.cords[i]?.getD default).length → 400 < farN b i * prodS ((b.cords[i]?.getD default).take (p + 1)) → farP b = true := by
     intro p hp hq
     exact List.any_eq_true.2 ⟨i, by simpa using hlt, List.any_eq_true.2 ⟨p, by simpa using hp, by simpa using hq⟩⟩
    generalize hl : b.cords[i]?.getD default = l at *
    obtain ⟨hcv1, hcv2⟩ := hcv
    simp -failIfUnchanged (disch := first|omega|(simp [wcs_len]<;>omega)|fail) only [go_sem,simprocAttr]
    refine wp_loop' Nat (fun p => ⟨[(1, .ptr 1 0), (3, .int (farN b i * prodS (l.take p) : Nat)), (4, .int i), (5, .int p)], [(1, ⟨[.int b.base, .int b.places, .sl 1 (b.cords.map SS) .sh, SS b.top], false⟩)], [], none⟩) (fun p => p ≤ l.length ∧ farN b i * prodS (l.take p) ≤ 400 ∧ ∀ q, q < p → decide (400 < farN b i * prodS (l.take (q + 1))) = false) (fun p => l.length - p) 0 ⟨by simp, by simpa [prodS] using hn, by simp⟩ (by simp -failIfUnchanged (disch := first|omega|(simp [wcs_len]<;>omega)|fail) only [go_sem,simprocAttr]; try simp [prodS]) ?_
    rintro p ⟨hp, hn2, hpre2⟩
    simp -failIfUnchanged (disch := first|omega|(simp [wcs_len]<;>omega)|fail) only [go_sem,simprocAttr, hl]
    refine wcond_dec (fun h7 => ?_) (fun h7 => ?_)
    ·have hplt : p < l.length := by omega
     obtain ⟨s1, s2, s3⟩ := hcv2 _ (mem_getD hplt)
     have hsn : prodS (l.take (p + 1)) = prodS (l.take p) * wS (l[p]?.getD default) := by rw [take_snoc hplt, prodS_snoc]
     have hw : (wS (l[p]?.getD default) : Int) = (l[p]?.getD default).hi - (l[p]?.getD default).lo + 1 := by unfold wS; omega
     have hw10 : wS (l[p]?.getD default) ≤ 10 := by omega
     have hnn : farN b i * prodS (l.take (p + 1)) = farN b i * prodS (l.take p) * wS (l[p]?.getD default) := by rw [hsn, Nat.mul_assoc]
     have hy := hyes p hplt
     have hmul : farN b i * prodS (l.take p) * wS (l[p]?.getD default) ≤ 400 * 10 := Nat.mul_le_mul hn2 hw10
     have hcast : ((farN b i * prodS (l.take (p + 1)) : Nat) : Int) = ((farN b i * prodS (l.take p) : Nat) : Int) * ((l[p]?.getD default).hi - (l[p]?.getD default).lo + 1) := by
      rw [hnn, Int.natCast_mul, hw]
     generalize hN : farN b i * prodS (l.take p) = N at *
     generalize hM : farN b i * prodS (l.take (p + 1)) = M at *
     generalize hs0 : l[p]?.getD default = s at *
     have e1 : w64 (s.hi - s.lo) = s.hi - s.lo := w64_id (by omega)
     have e2 : w64 (s.hi - s.lo + 1) = s.hi - s.lo + 1 := w64_id (by omega)
     have e3 : w64 ((N : Int) * (s.hi - s.lo + 1)) = (M : Int) := by
      rw [← hcast]
      exact w64_id (by omega)
     simp -failIfUnchanged (disch := first|omega|(simp [wcs_len]<;>omega)|fail) only [go_sem,simprocAttr, hl, hs0, e1, e2, e3]
     refine wcond_dec (fun h8 => ?_) (fun h8 => ?_)
     ·simp -failIfUnchanged (disch := first|omega|(simp [wcs_len]<;>omega)|fail) only [go_sem,simprocAttr]
      simp [hy (by omega)]
     ·simp -failIfUnchanged (disch := first|omega|(simp [wcs_len]<;>omega)|fail) only [go_sem,simprocAttr]
      refine ⟨p + 1, ⟨by omega, by omega, fun q hq => ?_⟩, by dsimp only; omega, ?_⟩
      ·rcases Nat.lt_or_ge q p with hq2 | hq2
       ·exact hpre2 q hq2
       ·have : q = p := by omega
        subst this
        rw [hM]
        simpa using by omega
      ·dsimp only
       rw [hM]
       simp -failIfUnchanged (disch := first|omega|(simp [wcs_len]<;>omega)|fail) only [go_sem,simprocAttr]
       try simp
    ·have e : p = l.length := by omega
     subst e
     rw [List.take_length] at hn2
     rw [List.take_length, ← hfs]
     simp -failIfUnchanged (disch := first|omega|(simp [wcs_len]<;>omega)|fail) only [go_sem,simprocAttr]
     refine ⟨i + 1, ⟨by omega, by rw [hfs]; exact hn2, fun j hj => ?_⟩, by dsimp only; omega, ?_⟩
     ·rcases Nat.lt_or_ge j i with hj2 | hj2
      ·exact hpre j hj2
      ·have : j = i := by omega
       subst this
       rw [hl]
       exact List.any_eq_false.2 fun q hq => by rw [hpre2 q (by simpa using hq)]; simp
     ·simp -failIfUnchanged (disch := first|omega|(simp [wcs_len]<;>omega)|fail) only [go_sem,simprocAttr]
      simp
   ·have e : i = b.cords.length := by omega
    subst e
    have : farP b = false := List.any_eq_false.2 fun j hj => by rw [hpre j (by simpa using hj)]; simp
    rw [this]
    simp -failIfUnchanged (disch := first|omega|(simp [wcs_len]<;>omega)|fail) only [go_sem,simprocAttr]
    refine wcall (c11 b hv) ?_
    simp -failIfUnchanged (disch := first|omega|(simp [wcs_len]<;>omega)|fail) only [go_sem,simprocAttr]
    try simp
    try omega
end Go.Proofs.YtpangdaijhiohaaGreatDoor.Kn

set_option linter.unusedSimpArgs false
set_option linter.unusedVariables false
set_option linter.unnecessarySimpa false
namespace Go.Proofs.YtpangdaijhiohaaGreatDoor.Kn
open Go Go.V
end Go.Proofs.YtpangdaijhiohaaGreatDoor.Kn

set_option linter.unusedSimpArgs false
set_option linter.unusedVariables false
set_option linter.unnecessarySimpa false
namespace Go.Proofs.YtpangdaijhiohaaGreatDoor.Kn
open Go Go.V
theorem far_false {b : Bk} (h : farB b = false) : hugeB b = false ∧ (checkB b = true → farP b = false ∧ allN b ≤ 1000) := by
 simp only [farB, Bool.or_eq_false_iff, Bool.and_eq_false_iff, decide_eq_false_iff_not] at h
 refine ⟨h.1, fun hc => ?_⟩
 rw [hc] at h
 rcases h.2 with h2 | h2
 ·simp at h2
 ·exact ⟨h2.1, by omega⟩
end Go.Proofs.YtpangdaijhiohaaGreatDoor.Kn

set_option linter.unusedSimpArgs false
set_option linter.unusedVariables false
set_option linter.unnecessarySimpa false
namespace Go.Proofs.YtpangdaijhiohaaGreatDoor.Kn
open Go Go.V
def spF (base : Int) (Q : Nat → Prop) [DecidablePred Q] (m : Nat) : Sp := (List.range m).foldl (fun s d => if Q d then ⟨min s.lo d, max s.hi d⟩ else s) ⟨base, 0⟩
theorem spF_spec (base : Int) (Q : Nat → Prop) [DecidablePred Q] : ∀ m : Nat, (m : Int) ≤ base →
  ((∀ d, d < m → ¬ Q d) ∧ spF base Q m = ⟨base, 0⟩) ∨ ∃ lo hi : Nat, lo < m ∧ hi < m ∧ Q lo ∧ Q hi ∧ spF base Q m = ⟨lo, hi⟩ ∧ ∀ d, d < m → Q d → lo ≤ d ∧ d ≤ hi
 | 0, _ => .inl ⟨fun d hd => by omega, by simp [spF]⟩
 | m + 1, hm => by
  have e : spF base Q (m + 1) = if Q m then ⟨min (spF base Q m).lo m, max (spF base Q m).hi m⟩ else spF base Q m := by
   unfold spF
   rw [List.range_succ, List.foldl_append]
   rfl
  rw [e]
  rcases spF_spec base Q m (by omega) with ⟨h1, h2⟩ | ⟨lo, hi, h1, h2, h3, h4, h5, h6⟩
  ·by_cases hq : Q m
   ·refine .inr ⟨m, m, by omega, by omega, hq, hq, ?_, ?_⟩
    ·rw [if_pos hq, h2, Sp.mk.injEq]
     dsimp only
     omega
    ·intro d hd hqd
     rcases Nat.lt_or_ge d m with h | h
     ·exact absurd hqd (h1 d h)
     ·omega
   ·refine .inl ⟨fun d hd hqd => ?_, by rw [if_neg hq, h2]⟩
    rcases Nat.lt_or_ge d m with h | h
    ·exact h1 d h hqd
    ·have : d = m := by omega
     subst this; exact hq hqd
  ·by_cases hq : Q m
   ·refine .inr ⟨lo, m, by omega, by omega, h3, hq, ?_, ?_⟩
    ·rw [if_pos hq, h5, Sp.mk.injEq]
     dsimp only
     omega
    ·intro d hd hqd
     rcases Nat.lt_or_ge d m with h | h
     ·have := h6 d h hqd; omega
     ·omega
   ·refine .inr ⟨lo, hi, by omega, by omega, h3, h4, by rw [if_neg hq, h5], fun d hd hqd => ?_⟩
    rcases Nat.lt_or_ge d m with h | h
    ·exact h6 d h hqd
    ·have : d = m := by omega
     subst this; exact absurd hqd hq
theorem manyR_pos {b : Bk} {L : List (List Nat)} {may : Nat → Nat → Nat → Bool} {carry : Nat → Nat → Bool} {c p d : Nat} (hc : c ≤ b.cords.length) (hp : p < b.places.toNat) :
  0 < manyR b L may carry c p d ↔ ∃ l ∈ L, allOK b may carry l = true ∧ dgN b l c p = d := by
 unfold manyR
 have : 0 < ((sumF L fun l => if allOK b (onlyF may c p d) carry l then 1 else 0 : Nat) : Int) ↔ 0 < sumF L fun l => if allOK b (onlyF may c p d) carry l then 1 else 0 := by omega
 rw [this, sumF_pos]
 constructor
 ·rintro ⟨l, hl, h⟩
  refine ⟨l, hl, ?_⟩
  split at h
  ·next h2 => rwa [allOK_only hc hp, Bool.and_eq_true, decide_eq_true_eq] at h2
  ·omega
 ·rintro ⟨l, hl, h1, h2⟩
  refine ⟨l, hl, ?_⟩
  rw [allOK_only hc hp, h1, h2]
  simp
theorem spanR_spec {b : Bk} (hv : Val b) {L : List (List Nat)} {may : Nat → Nat → Nat → Bool} {carry : Nat → Nat → Bool} {c p : Nat} (hc : c ≤ b.cords.length) (hp : p < b.places.toNat)
  (hne : ∃ l ∈ L, allOK b may carry l = true) :
  ∃ lo hi : Nat, lo < b.base.toNat ∧ hi < b.base.toNat ∧ spanR b L may carry c p b.base.toNat = ⟨lo, hi⟩ ∧ (∃ l ∈ L, allOK b may carry l = true ∧ dgN b l c p = lo) ∧ (∃ l ∈ L, allOK b may carry l = true ∧ dgN b l c p = hi) ∧
   ∀ l ∈ L, allOK b may carry l = true → lo ≤ dgN b l c p ∧ dgN b l c p ≤ hi := by
 have hB : 0 < b.base.toNat := by have := hv.hb; omega
 have e : spanR b L may carry c p b.base.toNat = spF b.base (fun d => 0 < manyR b L may carry c p d) b.base.toNat := rfl
 rcases spF_spec b.base (fun d => 0 < manyR b L may carry c p d) b.base.toNat (by omega) with ⟨h1, _⟩ | ⟨lo, hi, h1, h2, h3, h4, h5, h6⟩
 ·obtain ⟨l, hl, h⟩ := hne
  exact absurd ((manyR_pos hc hp).2 ⟨l, hl, h, rfl⟩) (h1 _ (Nat.mod_lt _ hB))
 ·refine ⟨lo, hi, h1, h2, by rw [e, h5], (manyR_pos hc hp).1 h3, (manyR_pos hc hp).1 h4, fun l hl h => ?_⟩
  exact h6 _ (Nat.mod_lt _ hB) ((manyR_pos hc hp).2 ⟨l, hl, h, rfl⟩)
theorem spanL_spec (l : List Int) (h : 0 < l.length) : ∀ m, 0 < m → m ≤ l.length → (∃ x ∈ l.take m, (spanL l m).lo = x) ∧ (∃ x ∈ l.take m, (spanL l m).hi = x) ∧ ∀ x ∈ l.take m, (spanL l m).lo ≤ x ∧ x ≤ (spanL l m).hi
 | 0, h0, _ => by omega
 | m + 1, _, hm => by
  have e : spanL l (m + 1) = ⟨min (spanL l m).lo (l[m]?.getD default), max (spanL l m).hi (l[m]?.getD default)⟩ := by
   unfold spanL
   rw [take_snoc (by omega), List.foldl_append]
   rfl
  rw [e, take_snoc (show m < l.length by omega)]
  generalize hx : l[m]?.getD default = x
  rcases Nat.eq_zero_or_pos m with h0 | h0
  ·subst h0
   have e0 : spanL l 0 = ⟨x, x⟩ := by
    unfold spanL
    rw [List.take_zero, List.foldl_nil, hx]
   rw [e0]
   refine ⟨⟨x, by simp, by dsimp only; omega⟩, ⟨x, by simp, by dsimp only; omega⟩, fun y hy => ?_⟩
   simp only [List.take_zero, List.nil_append, List.mem_singleton] at hy
   subst hy
   dsimp only
   omega
  ·obtain ⟨⟨u, hu, h1⟩, ⟨v, hv, h2⟩, h3⟩ := spanL_spec l h m h0 (by omega)
   dsimp only
   refine ⟨?_, ?_, fun y hy => ?_⟩
   ·rcases Int.lt_or_le x (spanL l m).lo with h | h
    ·exact ⟨x, by simp, by omega⟩
    ·exact ⟨u, by simp [hu], by omega⟩
   ·rcases Int.lt_or_le (spanL l m).hi x with h | h
    ·exact ⟨x, by simp, by omega⟩
    ·exact ⟨v, by simp [hv], by omega⟩
   ·rcases List.mem_append.1 hy with hy | hy
    ·have := h3 y hy
     omega
    ·simp only [List.mem_singleton] at hy
     subst hy
     omega
theorem spanL_uniq {l : List Int} {lo hi : Int} (h1 : lo ∈ l) (h2 : hi ∈ l) (h3 : ∀ x ∈ l, lo ≤ x ∧ x ≤ hi) : spanL l l.length = ⟨lo, hi⟩ := by
 have h0 : 0 < l.length := List.length_pos_of_mem h1
 obtain ⟨⟨u, hu, e1⟩, ⟨v, hv, e2⟩, e3⟩ := spanL_spec l h0 l.length h0 (Nat.le_refl _)
 rw [List.take_length] at hu hv e3
 have a1 := h3 u hu
 have a2 := h3 v hv
 have a3 := e3 lo h1
 have a4 := e3 hi h2
 generalize spanL l l.length = s at *
 obtain ⟨x, y⟩ := s
 rw [Sp.mk.injEq]
 dsimp only at *
 omega
end Go.Proofs.YtpangdaijhiohaaGreatDoor.Kn

set_option linter.unusedSimpArgs false
set_option linter.unusedVariables false
set_option linter.unnecessarySimpa false
namespace Go.Proofs.YtpangdaijhiohaaGreatDoor.Kn
open Go Go.V
theorem numL_two {base : Int} {n e : Nat} (hb : 2 ≤ base ∧ base ≤ 10) (hn : n ≤ 100000) (he : e ≤ 100) : numL base [(n : Int), (e : Int)] = ((n * base.toNat + e : Nat) : Int) := by
 have hB : ((base.toNat : Nat) : Int) = base := by omega
 have h0 : w64 0 = 0 := by decide
 have h1 : n * base.toNat ≤ 100000 * 10 := Nat.mul_le_mul hn (by omega)
 have e1 : (n : Int) * base = ((n * base.toNat : Nat) : Int) := by rw [Int.natCast_mul, hB]
 unfold numL
 simp only [List.foldl_cons, List.foldl_nil, Int.zero_mul, h0, Int.zero_add]
 rw [w64_id (n := (n : Int)) (by omega), e1, w64_id (n := ((n * base.toNat : Nat) : Int)) (by omega), w64_id (by omega)]
 omega
theorem div_step {x N B : Nat} (hN : 0 < N) : x / N = x / (N * B) * B + x / N % B := by
 rw [← Nat.div_div_eq_div_mul, Nat.mul_comm]
 exact (Nat.div_add_mod (x / N) B).symm
theorem endR_lo {b : Bk} (hv : Val b) {L : List (List Nat)} {carry : Nat → Nat → Bool} {cord : Nat} (hc : cord ≤ b.cords.length) (hsm : ∀ l ∈ L, l[cord]?.getD default < allN b) :
  ∀ (k p : Nat) (may : Nat → Nat → Nat → Bool) (n : Nat), p + k = b.places.toNat → (∃ l ∈ L, allOK b may carry l = true) → (∀ l ∈ L, allOK b may carry l = true → l[cord]?.getD default / b.base.toNat ^ k = n) →
   ∃ r : Nat, endR b L carry cord (fun s => s.lo) p k may n = r ∧ (∃ l ∈ L, allOK b may carry l = true ∧ l[cord]?.getD default = r) ∧ ∀ l ∈ L, allOK b may carry l = true → r ≤ l[cord]?.getD default
 | 0, p, may, n, hpk, ⟨l, hl, h⟩, hn => by
  have h1 := hn l hl h
  rw [Nat.pow_zero, Nat.div_one] at h1
  refine ⟨n, rfl, ⟨l, hl, h, h1⟩, fun k hk h2 => ?_⟩
  have := hn k hk h2
  rw [Nat.pow_zero, Nat.div_one] at this
  omega
 | k + 1, p, may, n, hpk, hne, hn => by
  have hB : 0 < b.base.toNat := by have := hv.hb; omega
  have hall := allN_le hv
  obtain ⟨lo, hi, s1, s2, s3, ⟨l0, hl0, hl1, hl2⟩, _, s5⟩ := spanR_spec hv (L := L) (may := may) (carry := carry) hc (show p < b.places.toNat by omega) hne
  have hN : 0 < b.base.toNat ^ k := Nat.pow_pos hB
  have hdg : ∀ l : List Nat, dgN b l cord p = l[cord]?.getD default / b.base.toNat ^ k % b.base.toNat := by
   intro l
   unfold dgN
   rw [show b.places.toNat - 1 - p = k by omega]
  have hdv : ∀ l ∈ L, allOK b may carry l = true → l[cord]?.getD default / b.base.toNat ^ k = n * b.base.toNat + dgN b l cord p := by
   intro l hl h
   rw [hdg, ← hn l hl h, Nat.pow_succ]
   exact div_step hN
  have hnle : n ≤ 10000 := by
   have := hn l0 hl0 hl1
   have h2 := hsm l0 hl0
   have := Nat.div_le_self (l0[cord]?.getD default) (b.base.toNat ^ (k + 1))
   omega
  have hnum := numL_two hv.hb (n := n) (e := lo) (by omega) (by have := hv.hb; omega)
  rw [endR, s3]
  dsimp only
  rw [Int.toNat_natCast, hnum]
  obtain ⟨r, h1, ⟨l, hl, h2, h3⟩, h4⟩ := endR_lo hv (carry := carry) hc hsm k (p + 1) (onlyF may cord p lo) (n * b.base.toNat + lo) (by omega)
   ⟨l0, hl0, by rw [allOK_only hc (by omega), hl1, hl2]; simp⟩ (fun l hl h => by
    rw [allOK_only hc (by omega), Bool.and_eq_true, decide_eq_true_eq] at h
    rw [hdv l hl h.1, h.2])
  refine ⟨r, h1, ⟨l, hl, ?_, h3⟩, fun x hx hx2 => ?_⟩
  ·rw [allOK_only hc (by omega), Bool.and_eq_true] at h2
   exact h2.1
  ·rcases Nat.lt_or_ge lo (dgN b x cord p) with h | h
   ·rw [allOK_only hc (by omega), Bool.and_eq_true, decide_eq_true_eq] at h2
    have d1 := hdv l hl h2.1
    have d2 := hdv x hx hx2
    rw [h2.2] at d1
    have : l[cord]?.getD default / b.base.toNat ^ k < x[cord]?.getD default / b.base.toNat ^ k := by omega
    have := Nat.lt_of_div_lt_div this
    omega
   ·have h5 := (s5 x hx hx2).1
    refine h4 x hx ?_
    rw [allOK_only hc (by omega), hx2, Bool.true_and, decide_eq_true_eq]
    omega
theorem endR_hi {b : Bk} (hv : Val b) {L : List (List Nat)} {carry : Nat → Nat → Bool} {cord : Nat} (hc : cord ≤ b.cords.length) (hsm : ∀ l ∈ L, l[cord]?.getD default < allN b) :
  ∀ (k p : Nat) (may : Nat → Nat → Nat → Bool) (n : Nat), p + k = b.places.toNat → (∃ l ∈ L, allOK b may carry l = true) → (∀ l ∈ L, allOK b may carry l = true → l[cord]?.getD default / b.base.toNat ^ k = n) →
   ∃ r : Nat, endR b L carry cord (fun s => s.hi) p k may n = r ∧ (∃ l ∈ L, allOK b may carry l = true ∧ l[cord]?.getD default = r) ∧ ∀ l ∈ L, allOK b may carry l = true → l[cord]?.getD default ≤ r
 | 0, p, may, n, hpk, ⟨l, hl, h⟩, hn => by
  have h1 := hn l hl h
  rw [Nat.pow_zero, Nat.div_one] at h1
  refine ⟨n, rfl, ⟨l, hl, h, h1⟩, fun k hk h2 => ?_⟩
  have := hn k hk h2
  rw [Nat.pow_zero, Nat.div_one] at this
  omega
 | k + 1, p, may, n, hpk, hne, hn => by
  have hB : 0 < b.base.toNat := by have := hv.hb; omega
  have hall := allN_le hv
  obtain ⟨lo, hi, s1, s2, s3, _, ⟨l0, hl0, hl1, hl2⟩, s5⟩ := spanR_spec hv (L := L) (may := may) (carry := carry) hc (show p < b.places.toNat by omega) hne
  have hN : 0 < b.base.toNat ^ k := Nat.pow_pos hB
  have hdg : ∀ l : List Nat, dgN b l cord p = l[cord]?.getD default / b.base.toNat ^ k % b.base.toNat := by
   intro l
   unfold dgN
   rw [show b.places.toNat - 1 - p = k by omega]
  have hdv : ∀ l ∈ L, allOK b may carry l = true → l[cord]?.getD default / b.base.toNat ^ k = n * b.base.toNat + dgN b l cord p := by
   intro l hl h
   rw [hdg, ← hn l hl h, Nat.pow_succ]
   exact div_step hN
  have hnle : n ≤ 10000 := by
   have := hn l0 hl0 hl1
   have h2 := hsm l0 hl0
   have := Nat.div_le_self (l0[cord]?.getD default) (b.base.toNat ^ (k + 1))
   omega
  have hnum := numL_two hv.hb (n := n) (e := hi) (by omega) (by have := hv.hb; omega)
  rw [endR, s3]
  dsimp only
  rw [Int.toNat_natCast, hnum]
  obtain ⟨r, h1, ⟨l, hl, h2, h3⟩, h4⟩ := endR_hi hv (carry := carry) hc hsm k (p + 1) (onlyF may cord p hi) (n * b.base.toNat + hi) (by omega)
   ⟨l0, hl0, by rw [allOK_only hc (by omega), hl1, hl2]; simp⟩ (fun l hl h => by
    rw [allOK_only hc (by omega), Bool.and_eq_true, decide_eq_true_eq] at h
    rw [hdv l hl h.1, h.2])
  refine ⟨r, h1, ⟨l, hl, ?_, h3⟩, fun x hx hx2 => ?_⟩
  ·rw [allOK_only hc (by omega), Bool.and_eq_true] at h2
   exact h2.1
  ·rcases Nat.lt_or_ge (dgN b x cord p) hi with h | h
   ·rw [allOK_only hc (by omega), Bool.and_eq_true, decide_eq_true_eq] at h2
    have d1 := hdv l hl h2.1
    have d2 := hdv x hx hx2
    rw [h2.2] at d1
    have : x[cord]?.getD default / b.base.toNat ^ k < l[cord]?.getD default / b.base.toNat ^ k := by omega
    have := Nat.lt_of_div_lt_div this
    omega
   ·have h5 := (s5 x hx hx2).2
    refine h4 x hx ?_
    rw [allOK_only hc (by omega), hx2, Bool.true_and, decide_eq_true_eq]
    omega
theorem sure_eq {b : Bk} (hv : Val b) {c : Nat} (hc : c ≤ b.cords.length) (hne : 0 < (allNs b).length) : sureD b c = spanL (colS b c (allNs b).length) (allNs b).length := by
 have hsm : ∀ l ∈ allNs b, l[c]?.getD default < allN b := by
  intro l hl
  obtain ⟨h1, h2⟩ := allNs_mem hl
  exact h2 _ (mem_getD (by omega))
 have h0 : ∀ l ∈ allNs b, allOK b yes3 yes2 l = true → l[c]?.getD default / b.base.toNat ^ b.places.toNat = 0 := fun l hl _ => Nat.div_eq_of_lt (hsm l hl)
 obtain ⟨x, hx1, ⟨l, hl, _, hl2⟩, hx3⟩ := endR_lo hv (carry := yes2) hc hsm b.places.toNat 0 yes3 0 (by omega) ⟨(allNs b)[0], List.getElem_mem _, allOK_yes b _⟩ h0
 obtain ⟨y, hy1, ⟨k, hk, _, hk2⟩, hy3⟩ := endR_hi hv (carry := yes2) hc hsm b.places.toNat 0 yes3 0 (by omega) ⟨(allNs b)[0], List.getElem_mem _, allOK_yes b _⟩ h0
 have hd : colS b c (allNs b).length = (allNs b).map fun l => ((l[c]?.getD default : Nat) : Int) := by
  unfold colS
  rw [List.take_length]
 have := spanL_uniq (l := (allNs b).map fun l => ((l[c]?.getD default : Nat) : Int)) (lo := x) (hi := y) (List.mem_map.2 ⟨l, hl, by rw [hl2]⟩) (List.mem_map.2 ⟨k, hk, by rw [hk2]⟩) (fun z hz => by
  obtain ⟨l, hl, rfl⟩ := List.mem_map.1 hz
  have := hx3 l hl (allOK_yes b _)
  have := hy3 l hl (allOK_yes b _)
  omega)
 rw [List.length_map] at this
 rw [hd, this]
 unfold sureD
 rw [endF_R hv, endF_R hv]
 have hx1' : endR b (allNs b) yes2 c (fun s => s.lo) 0 b.places.toNat yes3 0 = x := hx1
 have hy1' : endR b (allNs b) yes2 c (fun s => s.hi) 0 b.places.toNat yes3 0 = y := hy1
 rw [hx1', hy1']
end Go.Proofs.YtpangdaijhiohaaGreatDoor.Kn

set_option linter.unusedSimpArgs false
set_option linter.unusedVariables false
set_option linter.unnecessarySimpa false
namespace Go.Proofs.YtpangdaijhiohaaGreatDoor.Kn
open Go Go.V
end Go.Proofs.YtpangdaijhiohaaGreatDoor.Kn

set_option linter.unusedSimpArgs false
set_option linter.unusedVariables false
set_option linter.unnecessarySimpa false
namespace Go.Proofs.YtpangdaijhiohaaGreatDoor.Kn
open Go Go.V
end Go.Proofs.YtpangdaijhiohaaGreatDoor.Kn

set_option linter.unusedSimpArgs false
set_option linter.unusedVariables false
set_option linter.unnecessarySimpa false
namespace Go.Proofs.YtpangdaijhiohaaGreatDoor.Kn
open Go Go.V
def ansS (b : Bk) (is : Bool) (v : Sp) : Sp × Int := if checkB b then if is then if (allNs b).length = 0 then (⟨0, 0⟩, 3) else (v, 0) else (⟨0, 0⟩, 1) else (⟨0, 0⟩, 110)
theorem ansR_S {b : Bk} (is : Bool) (u v : Sp) (h : checkB b = true → is = true → 0 < (allNs b).length → u = v) : ansR b is (SP ⟨0, 0⟩) (SP u) = .tup [SP (ansS b is v).1, .int (ansS b is v).2] := by
 unfold ansR ansS
 cases hc : checkB b with
 | false => rfl
 | true =>
  cases is with
  | false => rfl
  | true =>
   rw [if_pos rfl, if_pos rfl, if_pos rfl, if_pos rfl, many_len (val_of_check hc)]
   by_cases h0 : (allNs b).length = 0
   ·rw [if_pos (by omega), if_pos h0]
   ·rw [if_neg (by omega), if_neg h0, h hc rfl (by omega)]
def sureR (b : Bk) (c : Int) : Sp × Int := ansS b (within c 0 b.cords.length) (spanL (colS b c.toNat (allNs b).length) (allNs b).length)
def manyR2 (b : Bk) : Int × Int := if checkB b then ((allNs b).length, 0) else (0, 110)
theorem c22r (b : Bk) (hs : Small b) : Ctr Tryz.prog 22 [KB b] (.tup [.int (manyR2 b).1, .int (manyR2 b).2]) := by
 have := c22 b hs
 unfold manyR2
 cases hc : checkB b with
 | false => simpa [hc] using this
 | true =>
  rw [many_len (val_of_check hc)] at this
  simpa [hc] using this
theorem c16r (b : Bk) (hs : Small b) (c : Int) : Ctr Tryz.prog 16 [KB b, .int c] (.tup [SP (sureR b c).1, .int (sureR b c).2]) := by
 have := c16 b hs c
 rwa [ansR_S _ _ (spanL (colS b c.toNat (allNs b).length) (allNs b).length) (fun hc hi hne => sure_eq (val_of_check hc) (by simp [within] at hi; omega) hne)] at this
end Go.Proofs.YtpangdaijhiohaaGreatDoor.Kn

set_option linter.unusedSimpArgs false
set_option linter.unusedVariables false
set_option linter.unnecessarySimpa false
namespace Go.Proofs.YtpangdaijhiohaaGreatDoor.Kn
open Go Go.V
theorem isum_le {n : Nat} {f : Nat → Int} {K : Int} (h : ∀ i, i < n → f i ≤ K) : isum n f ≤ n * K := by
 induction n with
 | zero => simp [isum_zero]
 | succ n ih =>
  rw [isum_succ]
  have h1 := ih fun i hi => h i (by omega)
  have h2 := h n (by omega)
  have : ((n + 1 : Nat) : Int) * K = n * K + K := by
   rw [Int.natCast_add, Int.add_mul]
   simp
  omega
theorem knotsL_bd {b : Bk} (hv : Val b) {c : Nat} (hc : c ≤ b.cords.length) (l : List Nat) : 0 ≤ (isum b.places.toNat fun p => costL (cordSp b c p) (dgN b l c p : Nat)) ∧ (isum b.places.toNat fun p => costL (cordSp b c p) (dgN b l c p : Nat)) ≤ 40 := by
 have hbb := hv.hb
 have hpp := hv.hp
 obtain ⟨h1, h2⟩ := cordAt_val hv hc
 refine ⟨isum_nonneg fun p _ => costL_nonneg _ _, ?_⟩
 have : (isum b.places.toNat fun p => costL (cordSp b c p) (dgN b l c p : Nat)) ≤ (b.places.toNat : Int) * 10 := isum_le fun p hp => by
  obtain ⟨s1, s2, s3⟩ := h2 _ (mem_getD (show p < (cordAt b c).length by omega))
  have : dgN b l c p < b.base.toNat := Nat.mod_lt _ (by omega)
  unfold costL cordSp
  omega
 omega
theorem costN_bd {b : Bk} (hv : Val b) (l : List Nat) : 0 ≤ costN b l ∧ costN b l ≤ 200 := by
 have hcl := hv.hc
 refine ⟨isum_nonneg fun c hc => (knotsL_bd hv (by omega) l).1, ?_⟩
 have : costN b l ≤ ((b.cords.length + 1 : Nat) : Int) * 40 := isum_le fun c hc => (knotsL_bd hv (by omega) l).2
 omega
end Go.Proofs.YtpangdaijhiohaaGreatDoor.Kn

set_option linter.unusedSimpArgs false
set_option linter.unusedVariables false
set_option linter.unnecessarySimpa false
namespace Go.Proofs.YtpangdaijhiohaaGreatDoor.Kn
open Go Go.V
abbrev frNs (b : Bk) : List (List Nat) := sumsN b true b.cords.length []
end Go.Proofs.YtpangdaijhiohaaGreatDoor.Kn

set_option linter.unusedSimpArgs false
set_option linter.unusedVariables false
set_option linter.unnecessarySimpa false
namespace Go.Proofs.YtpangdaijhiohaaGreatDoor.Kn
open Go Go.V
end Go.Proofs.YtpangdaijhiohaaGreatDoor.Kn

set_option linter.unusedSimpArgs false
set_option linter.unusedVariables false
set_option linter.unnecessarySimpa false
namespace Go.Proofs.YtpangdaijhiohaaGreatDoor.Kn
open Go Go.V
theorem spanL_map {L : List (List Nat)} (f : List Nat → Int) (h : 0 < L.length) : (∃ l ∈ L, (spanL (L.map f) L.length).lo = f l) ∧ (∃ l ∈ L, (spanL (L.map f) L.length).hi = f l) ∧ ∀ l ∈ L, (spanL (L.map f) L.length).lo ≤ f l ∧ f l ≤ (spanL (L.map f) L.length).hi := by
 obtain ⟨⟨x, hx, h1⟩, ⟨y, hy, h2⟩, h3⟩ := spanL_spec (L.map f) (by simpa using h) L.length h (by simp)
 have e : (L.map f).take L.length = L.map f := List.take_of_length_le (by simp)
 rw [e] at hx hy h3
 obtain ⟨l, hl, rfl⟩ := List.mem_map.1 hx
 obtain ⟨k, hk, rfl⟩ := List.mem_map.1 hy
 exact ⟨⟨l, hl, h1⟩, ⟨k, hk, h2⟩, fun m hm => h3 _ (List.mem_map.2 ⟨m, hm, rfl⟩)⟩
end Go.Proofs.YtpangdaijhiohaaGreatDoor.Kn

set_option linter.unusedSimpArgs false
set_option linter.unusedVariables false
set_option linter.unnecessarySimpa false
namespace Go.Proofs.YtpangdaijhiohaaGreatDoor.Kn
open Go Go.V
end Go.Proofs.YtpangdaijhiohaaGreatDoor.Kn

set_option linter.unusedSimpArgs false
set_option linter.unusedVariables false
set_option linter.unnecessarySimpa false
namespace Go.Proofs.YtpangdaijhiohaaGreatDoor.Kn
open Go Go.V
def withB (b : Bk) (c p : Nat) (s : Sp) : Bk :=
 if c = b.cords.length then { b with top := b.top.set p s } else { b with cords := b.cords.set c ((b.cords[c]?.getD default).set p s) }
theorem withB_base (b : Bk) (c p : Nat) (s : Sp) : (withB b c p s).base = b.base := by unfold withB; split <;> rfl
theorem withB_places (b : Bk) (c p : Nat) (s : Sp) : (withB b c p s).places = b.places := by unfold withB; split <;> rfl
theorem withB_len (b : Bk) (c p : Nat) (s : Sp) : (withB b c p s).cords.length = b.cords.length := by unfold withB; split <;> simp
theorem withB_all (b : Bk) (c p : Nat) (s : Sp) : allN (withB b c p s) = allN b := by
 unfold allN
 rw [withB_base, withB_places]
theorem withB_cord {b : Bk} {c p : Nat} {s : Sp} (hc : c ≤ b.cords.length) (e : Nat) (he : e ≤ b.cords.length) : cordAt (withB b c p s) e = if e = c then (cordAt b c).set p s else cordAt b e := by
 unfold cordAt
 rw [withB_len]
 unfold withB
 by_cases h1 : c = b.cords.length
 ·rw [if_pos h1]
  by_cases h2 : e = b.cords.length
  ·rw [if_pos h2, if_pos (by omega), if_pos h1]
  ·rw [if_neg h2, if_neg (by omega), if_neg h2]
 ·rw [if_neg h1]
  by_cases h2 : e = b.cords.length
  ·rw [if_pos h2, if_neg (by omega), if_pos h2]
  ·rw [if_neg h2, if_neg h2]
   by_cases h3 : e = c
   ·subst h3
    rw [if_pos rfl, if_neg h2]
    simp [show e < b.cords.length by omega]
   ·rw [if_neg h3]
    rw [List.getElem?_set_ne (by omega)]
theorem frees_eq {b b' : Bk} (h1 : allN b' = allN b) : ∀ (k : Nat) (first : List Nat), sumsN b' true k first = sumsN b true k first
 | 0, first => by
  unfold sumsN
  simp [h1]
 | k + 1, first => by
  unfold sumsN
  have e : (List.range (allN b')).filter (isN b' first.length true) = (List.range (allN b)).filter (isN b first.length true) := by
   rw [h1]
   exact List.filter_congr fun n _ => rfl
  rw [e]
  congr 1
  funext n
  exact frees_eq h1 k (first ++ [n])
theorem frNs_with (b : Bk) (c p : Nat) (s : Sp) : frNs (withB b c p s) = frNs b := by
 unfold frNs
 rw [withB_len]
 exact frees_eq (withB_all b c p s) _ _
def fitFrom (b : Bk) (a k : Nat) (l : List Nat) : Bool := (List.range k).all (fun c => fitsL (cordAt b (a + c)) (tieN b.base.toNat b.places.toNat (l[a + c]?.getD default))) && fitsL b.top (tieN b.base.toNat b.places.toNat (l[a + k]?.getD default))
theorem sums_pre (b : Bk) (f : Bool) : ∀ (k : Nat) (first l : List Nat), l ∈ sumsN b f k first → ∀ c, c < first.length → l[c]? = first[c]?
 | 0, first, l, hl, c, hc => by
  unfold sumsN at hl
  split at hl
  ·simp only [List.mem_singleton] at hl
   subst hl
   exact List.getElem?_append_left hc
  ·simp at hl
 | k + 1, first, l, hl, c, hc => by
  unfold sumsN at hl
  obtain ⟨n, _, hl⟩ := List.mem_flatMap.1 hl
  have := sums_pre b f k (first ++ [n]) l hl c (by simp; omega)
  rw [this, List.getElem?_append_left hc]
theorem sums_filter (b : Bk) : ∀ (k : Nat) (first : List Nat), sumsN b false k first = (sumsN b true k first).filter (fitFrom b first.length k)
 | 0, first => by
  unfold sumsN
  by_cases h : first.sum < allN b
  ·by_cases h2 : fitsL b.top (tieN b.base.toNat b.places.toNat first.sum) = true
   ·rw [if_pos (by simp [h, h2]), if_pos (by simp [h])]
    simp [fitFrom, h2]
   ·rw [if_neg (by simp [h2]), if_pos (by simp [h])]
    simp [fitFrom, h2]
  ·rw [if_neg (by simp [h]), if_neg (by simp [h])]
   rfl
 | k + 1, first => by
  unfold sumsN
  rw [List.filter_flatMap]
  have e : (List.range (allN b)).filter (isN b first.length true) = List.range (allN b) := List.filter_eq_self.2 fun n _ => by simp [isN]
  rw [e]
  have key : ∀ L : List Nat, ((L.filter (isN b first.length false)).flatMap fun n => sumsN b false k (first ++ [n])) = L.flatMap fun n => (sumsN b true k (first ++ [n])).filter (fitFrom b first.length (k + 1)) := by
   intro L
   induction L with
   | nil => rfl
   | cons n r ih =>
    have hn : ∀ l ∈ sumsN b true k (first ++ [n]), l[first.length]?.getD default = n := by
     intro l hl
     rw [sums_pre b true k (first ++ [n]) l hl first.length (by simp)]
     simp
    have hf : ∀ l ∈ sumsN b true k (first ++ [n]), fitFrom b first.length (k + 1) l = (isN b first.length false n && fitFrom b (first ++ [n]).length k l) := by
     intro l hl
     unfold fitFrom
     rw [List.range_succ_eq_map, List.all_cons, List.all_map, Nat.add_zero, hn l hl, List.length_append, List.length_singleton]
     have e2 : ((fun c => fitsL (cordAt b (first.length + c)) (tieN b.base.toNat b.places.toNat (l[first.length + c]?.getD default))) ∘ Nat.succ) = fun c => fitsL (cordAt b (first.length + 1 + c)) (tieN b.base.toNat b.places.toNat (l[first.length + 1 + c]?.getD default)) := by
      funext c
      simp only [Function.comp, Nat.succ_eq_add_one]
      rw [show first.length + (c + 1) = first.length + 1 + c by omega]
     rw [e2, show first.length + (k + 1) = first.length + 1 + k by omega]
     simp [isN, Bool.and_assoc]
    rw [List.flatMap_cons, ← ih]
    by_cases h : isN b first.length false n = true
    ·rw [List.filter_cons_of_pos h, List.flatMap_cons, sums_filter b k (first ++ [n])]
     congr 1
     exact List.filter_congr fun l hl => by rw [hf l hl, h, Bool.true_and]
    ·rw [List.filter_cons_of_neg h]
     have : (sumsN b true k (first ++ [n])).filter (fitFrom b first.length (k + 1)) = [] := List.filter_eq_nil_iff.2 fun l hl => by
      rw [hf l hl]
      simp only [Bool.not_eq_true] at h
      rw [h]
      simp
     rw [this, List.nil_append]
  exact key _
theorem fitFrom_cost {b : Bk} (hv : Val b) (l : List Nat) : fitFrom b 0 b.cords.length l = decide (costN b l = 0) := by
 rw [Bool.eq_iff_iff, decide_eq_true_eq]
 unfold fitFrom costN
 rw [isum_eq0 fun c hc => (knotsL_bd hv (by omega) l).1, Bool.and_eq_true, List.all_eq_true]
 have htop : cordAt b b.cords.length = b.top := by
  unfold cordAt
  rw [if_pos rfl]
 constructor
 ·rintro ⟨h1, h2⟩ c hc
  rw [← fits_cost hv (by omega)]
  rcases Nat.lt_or_ge c b.cords.length with h | h
  ·have := h1 c (List.mem_range.2 h)
   simpa using this
  ·have : c = b.cords.length := by omega
   subst this
   rw [htop]
   simpa using h2
 ·intro h
  refine ⟨fun c hc => ?_, ?_⟩
  ·have hc' := List.mem_range.1 hc
   have := (fits_cost hv (show c ≤ b.cords.length by omega) l).2 (h c (by omega))
   simpa using this
  ·have := (fits_cost hv (Nat.le_refl b.cords.length) l).2 (h _ (by omega))
   rw [htop] at this
   simpa using this
theorem allNs_fr {b : Bk} (hv : Val b) : allNs b = (frNs b).filter fun l => decide (costN b l = 0) := by
 unfold allNs frNs
 rw [sums_filter]
 exact List.filter_congr fun l _ => fitFrom_cost hv l
end Go.Proofs.YtpangdaijhiohaaGreatDoor.Kn

set_option linter.unusedSimpArgs false
set_option linter.unusedVariables false
set_option linter.unnecessarySimpa false
namespace Go.Proofs.YtpangdaijhiohaaGreatDoor.Kn
open Go Go.V
theorem dgN_with (b : Bk) (c p : Nat) (s : Sp) (l : List Nat) (e q : Nat) : dgN (withB b c p s) l e q = dgN b l e q := by
 unfold dgN
 rw [withB_base, withB_places]
theorem cordSp_with {b : Bk} (hv : Val b) {c p : Nat} {s : Sp} (hc : c ≤ b.cords.length) (hp : p < b.places.toNat) {e : Nat} (he : e ≤ b.cords.length) (q : Nat) :
  cordSp (withB b c p s) e q = if e = c ∧ q = p then s else cordSp b e q := by
 have h1 := (cordAt_val hv hc).1
 unfold cordSp
 rw [withB_cord hc e he]
 by_cases h : e = c
 ·subst h
  rw [if_pos rfl]
  by_cases h2 : q = p
  ·subst h2
   rw [if_pos ⟨rfl, rfl⟩]
   simp [show q < (cordAt b e).length by omega]
  ·rw [if_neg (fun h => h2 h.2), List.getElem?_set_ne (by omega)]
 ·rw [if_neg h, if_neg (fun h2 => h h2.1)]
theorem isum_upd {n i : Nat} (hi : i < n) {f g : Nat → Int} (h : ∀ j, j < n → j ≠ i → f j = g j) : isum n f + g i = isum n g + f i := by
 induction n with
 | zero => omega
 | succ n ih =>
  rw [isum_succ, isum_succ]
  rcases Nat.lt_or_ge i n with h1 | h1
  ·have := ih h1 fun j hj hne => h j (by omega) hne
   have h2 := h n (by omega) (by omega)
   omega
  ·have : i = n := by omega
   subst this
   have := isum_congr (n := i) (f := f) (g := g) fun j hj => h j (by omega) (by omega)
   omega
theorem costN_with {b : Bk} (hv : Val b) {c p : Nat} {s : Sp} (hc : c ≤ b.cords.length) (hp : p < b.places.toNat) (l : List Nat) :
  costN (withB b c p s) l + costL (cordSp b c p) (dgN b l c p : Nat) = costN b l + costL s (dgN b l c p : Nat) := by
 have hpl := withB_places b c p s
 have e1 : costN (withB b c p s) l = isum (b.cords.length + 1) fun e => isum b.places.toNat fun q => costL (if e = c ∧ q = p then s else cordSp b e q) (dgN b l e q : Nat) := by
  unfold costN
  rw [withB_len, hpl]
  exact isum_congr fun e he => isum_congr fun q hq => by rw [cordSp_with hv hc hp (by omega), dgN_with]
 have h1 := isum_upd (n := b.cords.length + 1) (i := c) (by omega) (f := fun e => isum b.places.toNat fun q => costL (if e = c ∧ q = p then s else cordSp b e q) (dgN b l e q : Nat)) (g := fun e => isum b.places.toNat fun q => costL (cordSp b e q) (dgN b l e q : Nat)) fun j _ hne => isum_congr fun q _ => by
  rw [if_neg fun h => hne h.1]
 have h2 := isum_upd (n := b.places.toNat) (i := p) hp (f := fun q => costL (if c = c ∧ q = p then s else cordSp b c q) (dgN b l c q : Nat)) (g := fun q => costL (cordSp b c q) (dgN b l c q : Nat)) fun j _ hne => by
  rw [if_neg fun h => hne h.2]
 simp only [and_self, if_true, true_and] at h1 h2
 rw [e1]
 unfold costN
 omega
theorem val_with {b : Bk} (hv : Val b) {c p : Nat} {s : Sp} (hc : c ≤ b.cords.length) (hs : 0 ≤ s.lo ∧ s.lo ≤ s.hi ∧ s.hi < b.base) : Val (withB b c p s) := by
 have hset : ∀ l : List Sp, (∀ t ∈ l, 0 ≤ t.lo ∧ t.lo ≤ t.hi ∧ t.hi < b.base) → ∀ t ∈ l.set p s, 0 ≤ t.lo ∧ t.lo ≤ t.hi ∧ t.hi < b.base := by
  intro l hl t ht
  rcases List.mem_or_eq_of_mem_set ht with h | h
  ·exact hl t h
  ·subst h; exact hs
 refine ⟨by rw [withB_base]; exact hv.hb, by rw [withB_places]; exact hv.hp, by rw [withB_len]; exact hv.hc, ?_, ?_⟩
 ·rw [withB_places, withB_base]
  unfold withB
  split
  ·exact hv.cord
  ·intro l hl
   rcases List.mem_or_eq_of_mem_set hl with h | h
   ·exact hv.cord l h
   ·subst h
    have hcl : c < b.cords.length := by omega
    obtain ⟨h1, h2⟩ := hv.cord _ (mem_getD hcl)
    exact ⟨by rw [List.length_set]; exact h1, hset _ h2⟩
 ·rw [withB_places, withB_base]
  unfold withB
  split
  ·exact ⟨by rw [List.length_set]; exact hv.top.1, hset _ hv.top.2⟩
  ·exact hv.top
theorem allNs_with {b : Bk} (hv : Val b) {c p : Nat} {s : Sp} (hc : c ≤ b.cords.length) (hp : p < b.places.toNat) (hs : 0 ≤ s.lo ∧ s.lo ≤ s.hi ∧ s.hi < b.base)
  (hin : (cordSp b c p).lo ≤ s.lo ∧ s.hi ≤ (cordSp b c p).hi) : allNs (withB b c p s) = (allNs b).filter fun l => within (dgN b l c p : Nat) s.lo s.hi := by
 rw [allNs_fr (val_with hv hc hs), allNs_fr hv, frNs_with, List.filter_filter]
 refine List.filter_congr fun l _ => ?_
 have h := costN_with hv (s := s) hc hp l
 have n1 := costN_bd (val_with hv (p := p) (s := s) hc hs) l
 have n2 := costN_bd hv l
 have z1 := costL_zero (s := s) (d := (dgN b l c p : Nat))
 have z2 := costL_zero (s := cordSp b c p) (d := (dgN b l c p : Nat))
 have g1 := costL_nonneg s (dgN b l c p : Nat)
 have g2 := costL_nonneg (cordSp b c p) (dgN b l c p : Nat)
 have hle : costL (cordSp b c p) (dgN b l c p : Nat) ≤ costN b l := by
  have a1 := isum_upd (n := b.cords.length + 1) (i := c) (by omega) (f := fun e => if e = c then 0 else isum b.places.toNat fun q => costL (cordSp b e q) (dgN b l e q : Nat)) (g := fun e => isum b.places.toNat fun q => costL (cordSp b e q) (dgN b l e q : Nat)) fun j _ hne => by rw [if_neg hne]
  have a2 := isum_upd (n := b.places.toNat) (i := p) hp (f := fun q => if q = p then 0 else costL (cordSp b c q) (dgN b l c q : Nat)) (g := fun q => costL (cordSp b c q) (dgN b l c q : Nat)) fun j _ hne => by rw [if_neg hne]
  have a3 : 0 ≤ isum (b.cords.length + 1) fun e => if e = c then 0 else isum b.places.toNat fun q => costL (cordSp b e q) (dgN b l e q : Nat) := isum_nonneg fun e he => by
   split
   ·exact Int.le_refl _
   ·exact isum_nonneg fun q _ => costL_nonneg _ _
  have a4 : 0 ≤ isum b.places.toNat fun q => if q = p then 0 else costL (cordSp b c q) (dgN b l c q : Nat) := isum_nonneg fun q _ => by
   split
   ·exact Int.le_refl _
   ·exact costL_nonneg _ _
  simp only [if_true] at a1 a2
  unfold costN
  omega
 rw [Bool.eq_iff_iff, Bool.and_eq_true, decide_eq_true_eq, decide_eq_true_eq]
 constructor
 ·intro h0
  have hs0 : costL s (dgN b l c p : Nat) = 0 := by
   have hle2 : costL (cordSp b c p) (dgN b l c p : Nat) ≤ costL s (dgN b l c p : Nat) := by unfold costL; omega
   omega
  have hw := z1.1 hs0
  refine ⟨hw, ?_⟩
  have : costL (cordSp b c p) (dgN b l c p : Nat) = 0 := by
   have hw' : s.lo ≤ (dgN b l c p : Nat) ∧ ((dgN b l c p : Nat) : Int) ≤ s.hi := by simpa [within] using hw
   unfold costL
   omega
  omega
 ·rintro ⟨hw, h0⟩
  have := z1.2 hw
  omega
end Go.Proofs.YtpangdaijhiohaaGreatDoor.Kn

set_option linter.unusedSimpArgs false
set_option linter.unusedVariables false
set_option linter.unnecessarySimpa false
namespace Go.Proofs.YtpangdaijhiohaaGreatDoor.Kn
open Go Go.V
theorem sure_with {b : Bk} (hc0 : checkB b = true) {c p : Nat} {s : Sp} (hc : c ≤ b.cords.length) (hp : p < b.places.toNat) (hs : 0 ≤ s.lo ∧ s.lo ≤ s.hi ∧ s.hi < b.base)
  (hin : (cordSp b c p).lo ≤ s.lo ∧ s.hi ≤ (cordSp b c p).hi) (hc0' : checkB (withB b c p s) = true) (hne : 0 < (allNs (withB b c p s)).length) {e : Nat} (he : e ≤ b.cords.length) :
  ∃ u v : Sp, sureR b e = (u, 0) ∧ sureR (withB b c p s) e = (v, 0) ∧ u.lo ≤ v.lo ∧ v.lo ≤ v.hi ∧ v.hi ≤ u.hi := by
 have hv := val_of_check hc0
 have hv' := val_of_check hc0'
 have hsub : ∀ l ∈ allNs (withB b c p s), l ∈ allNs b := by
  intro l hl
  rw [allNs_with hv hc hp hs hin] at hl
  exact (List.mem_filter.1 hl).1
 have hpos : 0 < (allNs b).length := by
  obtain ⟨l, hl⟩ := List.exists_mem_of_length_pos hne
  exact List.length_pos_of_mem (hsub l hl)
 have key : ∀ (b : Bk), checkB b = true → 0 < (allNs b).length → e ≤ b.cords.length → ∃ u, sureR b e = (u, 0) ∧ (∃ l ∈ allNs b, u.lo = ((l[e]?.getD default : Nat) : Int)) ∧ (∃ l ∈ allNs b, u.hi = ((l[e]?.getD default : Nat) : Int)) ∧ ∀ l ∈ allNs b, u.lo ≤ ((l[e]?.getD default : Nat) : Int) ∧ ((l[e]?.getD default : Nat) : Int) ≤ u.hi := by
  intro b hc0 hpos he
  have hw : within (e : Int) 0 b.cords.length = true := by simp [within]; omega
  have hcs : colS b e (allNs b).length = (allNs b).map fun l => ((l[e]?.getD default : Nat) : Int) := by
   unfold colS
   rw [List.take_length]
  obtain ⟨h1, h2, h3⟩ := spanL_map (fun l : List Nat => ((l[e]?.getD default : Nat) : Int)) hpos
  refine ⟨spanL ((allNs b).map fun l => ((l[e]?.getD default : Nat) : Int)) (allNs b).length, ?_, h1, h2, h3⟩
  unfold sureR ansS
  rw [hc0, hw, if_pos rfl, if_pos rfl, if_neg (by omega), Int.toNat_natCast, hcs]
 obtain ⟨u, e1, _, _, u3⟩ := key b hc0 hpos he
 obtain ⟨v, e2, ⟨l1, hl1, v1⟩, ⟨l2, hl2, v2⟩, v3⟩ := key (withB b c p s) hc0' hne (by rw [withB_len]; exact he)
 have a1 := u3 l1 (hsub l1 hl1)
 have a2 := u3 l2 (hsub l2 hl2)
 have a3 := v3 l1 hl1
 exact ⟨u, v, e1, e2, by omega, by omega, by omega⟩
end Go.Proofs.YtpangdaijhiohaaGreatDoor.Kn

set_option linter.unusedSimpArgs false
set_option linter.unusedVariables false
set_option linter.unnecessarySimpa false
namespace Go.Proofs.YtpangdaijhiohaaGreatDoor.Kn
open Go Go.V
@[simp] theorem flat_len (l : List Sp) : (flat (l.map SP)).length = l.length * 2 := by
 rw [flat_length (sz := 2)]
 ·simp
 ·intro e he
  obtain ⟨s, _, rfl⟩ := List.mem_map.1 he
  rfl
theorem setAt_flat (l : List Sp) (p : Nat) (a c : Int) (h : p < l.length) : setAt (flat (l.map SP)) (p * 2) [.int a, .int c] = flat ((l.set p ⟨a, c⟩).map SP) := by
 induction l generalizing p with
 | nil => simp at h
 | cons s r ih =>
  cases p with
  | zero => rfl
  | succ p =>
   simp only [List.map_cons, flat, cells_agg, List.set_cons_succ]
   have := ih p (by simpa using h)
   rw [show (p + 1) * 2 = p * 2 + 1 + 1 by omega]
   simp only [List.cons_append, List.nil_append, setAt]
   rw [this]
theorem chunks_flat (l : List Sp) (pre : List AV) (k : Nat) (hk : k = l.length) : chunks true 2 (pre ++ flat (l.map SP)) pre.length k = l.map SP := by
 subst hk
 induction l generalizing pre with
 | nil => rfl
 | cons s r ih =>
  simp only [List.length_cons, chunks, List.map_cons, flat, cells_agg]
  congr 1
  ·simp [chunk]
  ·have := ih (pre ++ [.int s.lo, .int s.hi])
   simp only [List.append_assoc, List.length_append, List.length_cons, List.length_nil] at this
   exact this
theorem chunks_flat0 (l : List Sp) (k : Nat) (hk : k = l.length) : chunks true 2 (flat (l.map SP)) 0 k = l.map SP := chunks_flat l [] k hk
theorem map_tidy_flat (l : List Sp) (hp : HpL) : (flat (l.map SP)).map (tidy hp) = flat (l.map SP) := by
 induction l with
 | nil => rfl
 | cons s r ih => simp only [List.map_cons, flat, cells_agg, List.map_append, List.map_nil, tidy_int, ih]
theorem map_strip_flat (l : List Sp) (hp : HpL) : (flat (l.map SP)).map (strip hp) = flat (l.map SP) := by
 induction l with
 | nil => rfl
 | cons s r ih => simp only [List.map_cons, flat, cells_agg, List.map_append, List.map_nil, strip_int, ih]
def rowsC (cords : List (List Sp)) : Nat → HpL
 | 0 => []
 | i + 1 => (K 2 i 0, ⟨flat ((cords[i]?.getD default).map SP), false⟩) :: rowsC cords i
def cellsC (cords : List (List Sp)) : Nat → List AV
 | 0 => []
 | i + 1 => cellsC cords i ++ [.gsl 2 i 0 2 (cords[i]?.getD default).length true]
def restC (cords : List (List Sp)) : Nat → HpL
 | 0 => []
 | i + 1 => (K 3 0 i, ⟨cellsC cords (i + 1), false⟩) :: rowsC cords (i + 1)
def ccC : Nat → AV
 | 0 => .sl 1 [] .full
 | i + 1 => .gsl 3 0 i 1 (i + 1) false
theorem scopes_flat (l : List Sp) (τ : AS) : scopes τ (flat (l.map SP)) = True := by
 induction l with
 | nil => rfl
 | cons s r ih => simp only [List.map_cons, flat, cells_agg, List.cons_append, List.nil_append, scopes, inS_int, ih, and_self]
theorem bids_flat (l : List Sp) : bids (flat (l.map SP)) = [] := by
 induction l with
 | nil => rfl
 | cons s r ih => simp only [List.map_cons, flat, cells_agg, List.cons_append, List.nil_append, bids, bid_int, ih]
attribute [go_sem] flat_len map_tidy_flat map_strip_flat scopes_flat bids_flat
end Go.Proofs.YtpangdaijhiohaaGreatDoor.Kn

set_option linter.unusedSimpArgs false
set_option linter.unusedVariables false
set_option linter.unnecessarySimpa false
namespace Go.Proofs.YtpangdaijhiohaaGreatDoor.Kn
open Go Go.V
def stC (base places : Int) (cords : List (List Sp)) (top : List Sp) (hp0 : HpL) (i : Nat) : AS :=
 ⟨[(1, .ptr 4001 0), (2, .ptr 4002 0), (3, .ptr 4003 0), (4, .int (i : Nat))],
  (4003, ⟨[.int base, .int places, ccC i, .gsl 1 0 0 2 top.length true], false⟩) :: (4002, ⟨[.int 0, .int 0, .sl 1 [] .full, .sl 2 [] .full], false⟩) :: (4001, ⟨[.int base, .int places, .sl 1 (cords.map SS) .sh, SS top], false⟩) ::
  (K 1 0 0, ⟨flat (top.map SP), false⟩) :: (hp0 ++ restC cords i), [], none⟩
theorem exL0 {l : List (List Sp)} (h : l.length = 0) : l = [] := List.eq_nil_of_length_eq_zero h
theorem exL1 {l : List (List Sp)} (h : l.length = 1) : ∃ l0, l = [l0] := by
 match l, h with
 | [a0], _ => exact ⟨a0, rfl⟩
theorem exL2 {l : List (List Sp)} (h : l.length = 2) : ∃ l0 l1, l = [l0, l1] := by
 match l, h with
 | [a0, a1], _ => exact ⟨a0, a1, rfl⟩
theorem exL3 {l : List (List Sp)} (h : l.length = 3) : ∃ l0 l1 l2, l = [l0, l1, l2] := by
 match l, h with
 | [a0, a1, a2], _ => exact ⟨a0, a1, a2, rfl⟩
theorem exL4 {l : List (List Sp)} (h : l.length = 4) : ∃ l0 l1 l2 l3, l = [l0, l1, l2, l3] := by
 match l, h with
 | [a0, a1, a2, a3], _ => exact ⟨a0, a1, a2, a3, rfl⟩
theorem c27 (base places : Int) (cords : List (List Sp)) (top : List Sp) (c p : Nat) (s : Sp) (hpl : 0 ≤ places ∧ places ≤ 4) (h4 : cords.length ≤ 4) (hr : ∀ l ∈ cords, (l.length : Int) = places) (ht : (top.length : Int) = places) (hc : c ≤ cords.length) (hp : (p : Int) < places) :
  Ctr Tryz.prog 27 [KB ⟨base, places, cords, top⟩, .int c, .int p, SP s] (KB (withB ⟨base, places, cords, top⟩ c p s)) := by
 have hrow : ∀ i, i < cords.length → ((cords[i]?.getD default).length : Int) = places := fun i hi => hr _ (mem_getD hi)
 refine ctr_of_wp hmix Tryz.func27 m27g rfl ?_
 unfold v27g
 simp -failIfUnchanged (disch := first|omega|(simp [wcs_len]<;>omega)|fail) only [go_sem,simprocAttr]
 refine wcall_in hmix Tryz.func77 m77g rfl ?_
 unfold v77g
 simp -failIfUnchanged (disch := first|omega|(simp [wcs_len]<;>omega)|fail) only [go_sem,simprocAttr]
 refine wp_loopX Nat (stC base places cords top [(4, ⟨[.int base, .int places, .sl 1 (cords.map SS) .sh, SS top], false⟩), (7, ⟨[.int s.lo, .int s.hi], false⟩), (8, ⟨[.int 0, .int 0, .sl 1 [] .full, .sl 2 [] .full], false⟩)]) (fun i => i ≤ cords.length) (fun i => cords.length - i) 0 (by simp) (by unfold stC restC ccC; simp -failIfUnchanged (disch := first|omega|(simp [wcs_len]<;>omega)|fail) only [go_sem,simprocAttr]; try simp) (fun i => by unfold stC; simp -failIfUnchanged (disch := first|omega|(simp [wcs_len]<;>omega)|fail) only [go_sem,simprocAttr]; try simp) ?_
 generalize hS : stC base places cords top [(4, ⟨[.int base, .int places, .sl 1 (cords.map SS) .sh, SS top], false⟩), (7, ⟨[.int s.lo, .int s.hi], false⟩), (8, ⟨[.int 0, .int 0, .sl 1 [] .full, .sl 2 [] .full], false⟩)] = S
 have hSi := fun i => congrFun hS i
 intro i hi
 have h9 : i = 0 ∨ i = 1 ∨ i = 2 ∨ i = 3 ∨ i = 4 := by omega
 rcases h9 with rfl | rfl | rfl | rfl | rfl
 ·have hs := hSi 0
  simp only [stC, restC, ccC, cellsC, rowsC, List.cons_append, List.nil_append] at hs
  rw [← hs]
  simp -failIfUnchanged (disch := first|omega|(simp [wcs_len]<;>omega)|fail) only [go_sem,simprocAttr]
  refine wcond_dec (fun h => ?_) (fun h => ?_)
  ·have hlt : 0 < cords.length := by omega
   have hr0 := hrow 0 hlt
   simp -failIfUnchanged (disch := first|omega|(simp [wcs_len]<;>omega)|fail) only [go_sem,simprocAttr]
   refine lpx_norm ⟨1, by omega, by omega, ?_⟩
   have ht := hSi 1
   simp only [stC, restC, ccC, cellsC, rowsC, List.cons_append, List.nil_append] at ht
   rw [← ht]
   simp -failIfUnchanged (disch := first|omega|(simp [wcs_len]<;>omega)|fail) only [go_sem,simprocAttr]
   try simp
  ·have hcl : cords.length = 0 := by omega
   clear hS hSi hs
   simp -failIfUnchanged (disch := first|omega|(simp [wcs_len]<;>omega)|fail) only [go_sem,simprocAttr]
   refine wcond_dec (fun h2 => ?_) (fun h2 => ?_)
   ·simp -failIfUnchanged (disch := first|omega|(simp [wcs_len]<;>omega)|fail) only [go_sem,simprocAttr]
    rw [setAt_flat _ _ _ _ (by omega)]
    refine wopsN [K 1 0 0] ?_
    simp -failIfUnchanged (disch := first|omega|(simp [wcs_len]<;>omega)|fail) only [go_sem,simprocAttr, Nat.le_refl, List.length_set]
    obtain rfl : c = 0 := by omega
    obtain rfl := exL0 hcl
    simp [-List.map_set, withB, chunks, chunk, chunks_flat0]
   ·omega
 ·have hs := hSi 1
  simp only [stC, restC, ccC, cellsC, rowsC, List.cons_append, List.nil_append] at hs
  rw [← hs]
  simp -failIfUnchanged (disch := first|omega|(simp [wcs_len]<;>omega)|fail) only [go_sem,simprocAttr]
  refine wcond_dec (fun h => ?_) (fun h => ?_)
  ·have hlt : 1 < cords.length := by omega
   have hr0 := hrow 1 hlt
   simp -failIfUnchanged (disch := first|omega|(simp [wcs_len]<;>omega)|fail) only [go_sem,simprocAttr]
   refine lpx_norm ⟨2, by omega, by omega, ?_⟩
   have ht := hSi 2
   simp only [stC, restC, ccC, cellsC, rowsC, List.cons_append, List.nil_append] at ht
   rw [← ht]
   simp -failIfUnchanged (disch := first|omega|(simp [wcs_len]<;>omega)|fail) only [go_sem,simprocAttr]
   try simp
  ·have hcl : cords.length = 1 := by omega
   clear hS hSi hs
   simp -failIfUnchanged (disch := first|omega|(simp [wcs_len]<;>omega)|fail) only [go_sem,simprocAttr]
   refine wcond_dec (fun h2 => ?_) (fun h2 => ?_)
   ·simp -failIfUnchanged (disch := first|omega|(simp [wcs_len]<;>omega)|fail) only [go_sem,simprocAttr]
    rw [setAt_flat _ _ _ _ (by omega)]
    refine wopsN [K 1 0 0, K 2 0 0, K 3 0 0] ?_
    simp -failIfUnchanged (disch := first|omega|(simp [wcs_len]<;>omega)|fail) only [go_sem,simprocAttr, Nat.le_refl, List.length_set]
    obtain rfl : c = 1 := by omega
    obtain ⟨l0, rfl⟩ := exL1 hcl
    simp [-List.map_set, withB, chunks, chunk, chunks_flat0]
   ·have hcj : c = 0 := by omega
    rcases hcj with rfl
    ·have hr0 := hrow 0 (by omega)
     simp -failIfUnchanged (disch := first|omega|(simp [wcs_len]<;>omega)|fail) only [go_sem,simprocAttr]
     rw [setAt_flat _ _ _ _ (by omega)]
     refine wopsN [K 1 0 0, K 2 0 0, K 3 0 0] ?_
     simp -failIfUnchanged (disch := first|omega|(simp [wcs_len]<;>omega)|fail) only [go_sem,simprocAttr, Nat.le_refl, List.length_set]
     obtain ⟨l0, rfl⟩ := exL1 hcl
     simp [-List.map_set, withB, chunks, chunk, chunks_flat0]
 ·have hs := hSi 2
  simp only [stC, restC, ccC, cellsC, rowsC, List.cons_append, List.nil_append] at hs
  rw [← hs]
  simp -failIfUnchanged (disch := first|omega|(simp [wcs_len]<;>omega)|fail) only [go_sem,simprocAttr]
  refine wcond_dec (fun h => ?_) (fun h => ?_)
  ·have hlt : 2 < cords.length := by omega
   have hr0 := hrow 2 hlt
   simp -failIfUnchanged (disch := first|omega|(simp [wcs_len]<;>omega)|fail) only [go_sem,simprocAttr]
   refine lpx_norm ⟨3, by omega, by omega, ?_⟩
   have ht := hSi 3
   simp only [stC, restC, ccC, cellsC, rowsC, List.cons_append, List.nil_append] at ht
   rw [← ht]
   simp -failIfUnchanged (disch := first|omega|(simp [wcs_len]<;>omega)|fail) only [go_sem,simprocAttr]
   try simp
  ·have hcl : cords.length = 2 := by omega
   clear hS hSi hs
   simp -failIfUnchanged (disch := first|omega|(simp [wcs_len]<;>omega)|fail) only [go_sem,simprocAttr]
   refine wcond_dec (fun h2 => ?_) (fun h2 => ?_)
   ·simp -failIfUnchanged (disch := first|omega|(simp [wcs_len]<;>omega)|fail) only [go_sem,simprocAttr]
    rw [setAt_flat _ _ _ _ (by omega)]
    refine wopsN [K 1 0 0, K 2 0 0, K 2 1 0, K 3 0 1] ?_
    simp -failIfUnchanged (disch := first|omega|(simp [wcs_len]<;>omega)|fail) only [go_sem,simprocAttr, Nat.le_refl, List.length_set]
    obtain rfl : c = 2 := by omega
    obtain ⟨l0, l1, rfl⟩ := exL2 hcl
    simp [-List.map_set, withB, chunks, chunk, chunks_flat0]
   ·have hcj : c = 0 ∨ c = 1 := by omega
    rcases hcj with rfl | rfl
    ·have hr0 := hrow 0 (by omega)
     simp -failIfUnchanged (disch := first|omega|(simp [wcs_len]<;>omega)|fail) only [go_sem,simprocAttr]
     rw [setAt_flat _ _ _ _ (by omega)]
     refine wopsN [K 1 0 0, K 2 0 0, K 2 1 0, K 3 0 1] ?_
     simp -failIfUnchanged (disch := first|omega|(simp [wcs_len]<;>omega)|fail) only [go_sem,simprocAttr, Nat.le_refl, List.length_set]
     obtain ⟨l0, l1, rfl⟩ := exL2 hcl
     simp [-List.map_set, withB, chunks, chunk, chunks_flat0]
    ·have hr0 := hrow 1 (by omega)
     simp -failIfUnchanged (disch := first|omega|(simp [wcs_len]<;>omega)|fail) only [go_sem,simprocAttr]
     rw [setAt_flat _ _ _ _ (by omega)]
     refine wopsN [K 1 0 0, K 2 0 0, K 2 1 0, K 3 0 1] ?_
     simp -failIfUnchanged (disch := first|omega|(simp [wcs_len]<;>omega)|fail) only [go_sem,simprocAttr, Nat.le_refl, List.length_set]
     obtain ⟨l0, l1, rfl⟩ := exL2 hcl
     simp [-List.map_set, withB, chunks, chunk, chunks_flat0]
 ·have hs := hSi 3
  simp only [stC, restC, ccC, cellsC, rowsC, List.cons_append, List.nil_append] at hs
  rw [← hs]
  simp -failIfUnchanged (disch := first|omega|(simp [wcs_len]<;>omega)|fail) only [go_sem,simprocAttr]
  refine wcond_dec (fun h => ?_) (fun h => ?_)
  ·have hlt : 3 < cords.length := by omega
   have hr0 := hrow 3 hlt
   simp -failIfUnchanged (disch := first|omega|(simp [wcs_len]<;>omega)|fail) only [go_sem,simprocAttr]
   refine lpx_norm ⟨4, by omega, by omega, ?_⟩
   have ht := hSi 4
   simp only [stC, restC, ccC, cellsC, rowsC, List.cons_append, List.nil_append] at ht
   rw [← ht]
   simp -failIfUnchanged (disch := first|omega|(simp [wcs_len]<;>omega)|fail) only [go_sem,simprocAttr]
   try simp
  ·have hcl : cords.length = 3 := by omega
   clear hS hSi hs
   simp -failIfUnchanged (disch := first|omega|(simp [wcs_len]<;>omega)|fail) only [go_sem,simprocAttr]
   refine wcond_dec (fun h2 => ?_) (fun h2 => ?_)
   ·simp -failIfUnchanged (disch := first|omega|(simp [wcs_len]<;>omega)|fail) only [go_sem,simprocAttr]
    rw [setAt_flat _ _ _ _ (by omega)]
    refine wopsN [K 1 0 0, K 2 0 0, K 2 1 0, K 2 2 0, K 3 0 2] ?_
    simp -failIfUnchanged (disch := first|omega|(simp [wcs_len]<;>omega)|fail) only [go_sem,simprocAttr, Nat.le_refl, List.length_set]
    obtain rfl : c = 3 := by omega
    obtain ⟨l0, l1, l2, rfl⟩ := exL3 hcl
    simp [-List.map_set, withB, chunks, chunk, chunks_flat0]
   ·have hcj : c = 0 ∨ c = 1 ∨ c = 2 := by omega
    rcases hcj with rfl | rfl | rfl
    ·have hr0 := hrow 0 (by omega)
     simp -failIfUnchanged (disch := first|omega|(simp [wcs_len]<;>omega)|fail) only [go_sem,simprocAttr]
     rw [setAt_flat _ _ _ _ (by omega)]
     refine wopsN [K 1 0 0, K 2 0 0, K 2 1 0, K 2 2 0, K 3 0 2] ?_
     simp -failIfUnchanged (disch := first|omega|(simp [wcs_len]<;>omega)|fail) only [go_sem,simprocAttr, Nat.le_refl, List.length_set]
     obtain ⟨l0, l1, l2, rfl⟩ := exL3 hcl
     simp [-List.map_set, withB, chunks, chunk, chunks_flat0]
    ·have hr0 := hrow 1 (by omega)
     simp -failIfUnchanged (disch := first|omega|(simp [wcs_len]<;>omega)|fail) only [go_sem,simprocAttr]
     rw [setAt_flat _ _ _ _ (by omega)]
     refine wopsN [K 1 0 0, K 2 0 0, K 2 1 0, K 2 2 0, K 3 0 2] ?_
     simp -failIfUnchanged (disch := first|omega|(simp [wcs_len]<;>omega)|fail) only [go_sem,simprocAttr, Nat.le_refl, List.length_set]
     obtain ⟨l0, l1, l2, rfl⟩ := exL3 hcl
     simp [-List.map_set, withB, chunks, chunk, chunks_flat0]
    ·have hr0 := hrow 2 (by omega)
     simp -failIfUnchanged (disch := first|omega|(simp [wcs_len]<;>omega)|fail) only [go_sem,simprocAttr]
     rw [setAt_flat _ _ _ _ (by omega)]
     refine wopsN [K 1 0 0, K 2 0 0, K 2 1 0, K 2 2 0, K 3 0 2] ?_
     simp -failIfUnchanged (disch := first|omega|(simp [wcs_len]<;>omega)|fail) only [go_sem,simprocAttr, Nat.le_refl, List.length_set]
     obtain ⟨l0, l1, l2, rfl⟩ := exL3 hcl
     simp [-List.map_set, withB, chunks, chunk, chunks_flat0]
 ·have hs := hSi 4
  simp only [stC, restC, ccC, cellsC, rowsC, List.cons_append, List.nil_append] at hs
  rw [← hs]
  simp -failIfUnchanged (disch := first|omega|(simp [wcs_len]<;>omega)|fail) only [go_sem,simprocAttr]
  refine wcond_dec (fun h => ?_) (fun h => ?_)
  ·omega
  ·have hcl : cords.length = 4 := by omega
   clear hS hSi hs
   simp -failIfUnchanged (disch := first|omega|(simp [wcs_len]<;>omega)|fail) only [go_sem,simprocAttr]
   refine wcond_dec (fun h2 => ?_) (fun h2 => ?_)
   ·simp -failIfUnchanged (disch := first|omega|(simp [wcs_len]<;>omega)|fail) only [go_sem,simprocAttr]
    rw [setAt_flat _ _ _ _ (by omega)]
    refine wopsN [K 1 0 0, K 2 0 0, K 2 1 0, K 2 2 0, K 2 3 0, K 3 0 3] ?_
    simp -failIfUnchanged (disch := first|omega|(simp [wcs_len]<;>omega)|fail) only [go_sem,simprocAttr, Nat.le_refl, List.length_set]
    obtain rfl : c = 4 := by omega
    obtain ⟨l0, l1, l2, l3, rfl⟩ := exL4 hcl
    simp [-List.map_set, withB, chunks, chunk, chunks_flat0]
   ·have hcj : c = 0 ∨ c = 1 ∨ c = 2 ∨ c = 3 := by omega
    rcases hcj with rfl | rfl | rfl | rfl
    ·have hr0 := hrow 0 (by omega)
     simp -failIfUnchanged (disch := first|omega|(simp [wcs_len]<;>omega)|fail) only [go_sem,simprocAttr]
     rw [setAt_flat _ _ _ _ (by omega)]
     refine wopsN [K 1 0 0, K 2 0 0, K 2 1 0, K 2 2 0, K 2 3 0, K 3 0 3] ?_
     simp -failIfUnchanged (disch := first|omega|(simp [wcs_len]<;>omega)|fail) only [go_sem,simprocAttr, Nat.le_refl, List.length_set]
     obtain ⟨l0, l1, l2, l3, rfl⟩ := exL4 hcl
     simp [-List.map_set, withB, chunks, chunk, chunks_flat0]
    ·have hr0 := hrow 1 (by omega)
     simp -failIfUnchanged (disch := first|omega|(simp [wcs_len]<;>omega)|fail) only [go_sem,simprocAttr]
     rw [setAt_flat _ _ _ _ (by omega)]
     refine wopsN [K 1 0 0, K 2 0 0, K 2 1 0, K 2 2 0, K 2 3 0, K 3 0 3] ?_
     simp -failIfUnchanged (disch := first|omega|(simp [wcs_len]<;>omega)|fail) only [go_sem,simprocAttr, Nat.le_refl, List.length_set]
     obtain ⟨l0, l1, l2, l3, rfl⟩ := exL4 hcl
     simp [-List.map_set, withB, chunks, chunk, chunks_flat0]
    ·have hr0 := hrow 2 (by omega)
     simp -failIfUnchanged (disch := first|omega|(simp [wcs_len]<;>omega)|fail) only [go_sem,simprocAttr]
     rw [setAt_flat _ _ _ _ (by omega)]
     refine wopsN [K 1 0 0, K 2 0 0, K 2 1 0, K 2 2 0, K 2 3 0, K 3 0 3] ?_
     simp -failIfUnchanged (disch := first|omega|(simp [wcs_len]<;>omega)|fail) only [go_sem,simprocAttr, Nat.le_refl, List.length_set]
     obtain ⟨l0, l1, l2, l3, rfl⟩ := exL4 hcl
     simp [-List.map_set, withB, chunks, chunk, chunks_flat0]
    ·have hr0 := hrow 3 (by omega)
     simp -failIfUnchanged (disch := first|omega|(simp [wcs_len]<;>omega)|fail) only [go_sem,simprocAttr]
     rw [setAt_flat _ _ _ _ (by omega)]
     refine wopsN [K 1 0 0, K 2 0 0, K 2 1 0, K 2 2 0, K 2 3 0, K 3 0 3] ?_
     simp -failIfUnchanged (disch := first|omega|(simp [wcs_len]<;>omega)|fail) only [go_sem,simprocAttr, Nat.le_refl, List.length_set]
     obtain ⟨l0, l1, l2, l3, rfl⟩ := exL4 hcl
     simp [-List.map_set, withB, chunks, chunk, chunks_flat0]
end Go.Proofs.YtpangdaijhiohaaGreatDoor.Kn

set_option linter.unusedSimpArgs false
set_option linter.unusedVariables false
set_option linter.unnecessarySimpa false
namespace Go.Proofs.YtpangdaijhiohaaGreatDoor.Kn
open Go Go.V
theorem check_of_val {b : Bk} (hv : Val b) : checkB b = true := by
 obtain ⟨h1, h2, h3, h4, h5, h6⟩ := hv
 have key : ∀ l : List Sp, (l.length : Int) = b.places → (∀ s ∈ l, 0 ≤ s.lo ∧ s.lo ≤ s.hi ∧ s.hi < b.base) → isCordB b l = true := by
  intro l hl hs
  simp only [isCordB, hl, decide_true, Bool.true_and, Bool.not_eq_true', List.any_eq_false]
  intro s hs'
  have := hs s hs'
  simp only [badS, within, Bool.or_eq_true, Bool.not_eq_true', decide_eq_false_iff_not, decide_eq_true_eq, not_or, Decidable.not_not]
  omega
 simp only [checkB, within, Bool.and_eq_true, decide_eq_true_eq, Bool.not_eq_true', List.any_eq_false]
 refine ⟨h1, h2, by omega, fun l hl => ?_, key b.top h5 h6⟩
 simp [key l (h4 l hl).1 (h4 l hl).2]
theorem c27r (b : Bk) (hv : Val b) (c p : Nat) (s : Sp) (hc : c ≤ b.cords.length) (hp : p < b.places.toNat) : Ctr Tryz.prog 27 [KB b, .int c, .int p, SP s] (KB (withB b c p s)) := by
 obtain ⟨base, places, cords, top⟩ := b
 have h2 := hv.hp
 exact c27 base places cords top c p s (by dsimp only at h2; omega) hv.hc (fun l hl => (hv.cord l hl).1) hv.top.1 hc (by dsimp only at hp h2 ⊢; omega)
theorem small_with {b : Bk} (hv : Val b) (c p : Nat) (s : Sp) : Small (withB b c p s) := by
 have h1 := hv.hc
 have h2 := hv.hp
 have h3 := hv.top.1
 refine small_small ?_
 have hl : ∀ l ∈ (withB b c p s).cords, l.length ≤ 40 := by
  intro l hl
  unfold withB at hl
  split at hl
  ·have := (hv.cord l hl).1; omega
  ·rcases List.mem_or_eq_of_mem_set hl with h | h
   ·have := (hv.cord l h).1; omega
   ·subst h
    rw [List.length_set]
    rcases Nat.lt_or_ge c b.cords.length with hc | hc
    ·have := (hv.cord _ (mem_getD hc)).1; omega
    ·rw [List.getElem?_eq_none hc]; simp; exact Nat.zero_le _
 have ht : (withB b c p s).top.length ≤ 40 := by
  unfold withB
  split
  ·simp only [List.length_set]; omega
  ·simp only; omega
 have hn := withB_len b c p s
 simp only [hugeB, Bool.or_eq_false_iff, decide_eq_false_iff_not, List.any_eq_false, decide_eq_true_eq]
 refine ⟨by omega, by omega, fun l h => ?_⟩
 have := hl l h
 omega
theorem many_ok {b : Bk} (hc0 : checkB b = true) : manyR2 b = (((allNs b).length : Int), 0) := by
 unfold manyR2
 rw [hc0, if_pos rfl]
theorem c22k (b : Bk) (hs : Small b) (hc0 : checkB b = true) : Ctr Tryz.prog 22 [KB b] (.tup [.int ((allNs b).length : Nat), .int 0]) := by
 have := c22r b hs
 rw [many_ok hc0] at this
 exact this
end Go.Proofs.YtpangdaijhiohaaGreatDoor.Kn

set_option linter.unusedSimpArgs false
set_option linter.unusedVariables false
set_option linter.unnecessarySimpa false
namespace Go.Proofs.YtpangdaijhiohaaGreatDoor.Kn
open Go Go.V
end Go.Proofs.YtpangdaijhiohaaGreatDoor.Kn

set_option linter.unusedSimpArgs false
set_option linter.unusedVariables false
set_option linter.unnecessarySimpa false
namespace Go.Proofs.YtpangdaijhiohaaGreatDoor.To
open Go Go.V Mo Bu Bd
def fillW (t : Tn) (l : List Int) : Tn := ⟨t.hs, l, t.wy⟩
theorem chk_fillW {t : Tn} (hc : chkB t = true) {l : List Int} (hl : l.length = t.ws.length) (h : ∀ i, i < l.length → 0 ≤ l[i]?.getD default ∧ l[i]?.getD default ≤ 20) : chkB (fillW t l) = true := by
 have hw : wok (fillW t l) = wok t := by
  funext i
  unfold wok fillW wyA
  rw [hl]
 unfold chkB vld at hc ⊢
 rw [hw]
 simp only [fillW, hl]
 simp only [Bool.and_eq_true] at hc ⊢
 refine ⟨hc.1, ⟨⟨hc.2.1.1.1, hc.2.1.1.2⟩, areB_true fun i hi => Mo.within_iff.2 (h i hi)⟩, hc.2.2⟩
theorem not_lessW {t : Tn} {l k : List Int} (hc : chkB (fillW t l) = true) (hc' : chkB (fillW t k) = true) (hl : l.length = k.length) (hle : ∀ w, w < l.length → cA l w ≤ cA k w) : elr (lks (fillW t l)) (lks (fillW t k)) = false := by
 have hv := vb_of hc
 have hv' := vb_of hc'
 have ho := fairL_ok hv'.vw
 have ho0 := fairL_ok hv.vw
 refine not_elr (lks_dsc _) (lks_dsc _) (by rw [lks_len, lks_len]; rfl) (lks_nn hv.vw) fun u hu => ?_
 rw [lks_ov hv.vw, lks_ov hv'.vw]
 exact fin_min (G := gr (fillW t k)) (G' := gr (fillW t l)) (gr_v hv'.vw) ho.1.dv ho.1.inv ho.2 rfl (by simp [gr, fillW, hl]) rfl rfl rfl rfl (fun w hw => hle w (by simp only [gr, fillW] at hw; omega)) ho0.1.dv u hu
end Go.Proofs.YtpangdaijhiohaaGreatDoor.To

set_option linter.unusedSimpArgs false
set_option linter.unusedVariables false
set_option linter.unnecessarySimpa false
namespace Go.Proofs.YtpangdaijhiohaaGreatDoor.To
open Go Go.V Mo Bu Bd
theorem sure_is {b : Kn.Bk} (hc0 : Kn.checkB b = true) (hpos : 0 < (Kn.allNs b).length) {e : Nat} (he : e ≤ b.cords.length) :
  ∃ u, Kn.sureR b e = (u, 0) ∧ (∃ l ∈ Kn.allNs b, u.lo = ((l[e]?.getD default : Nat) : Int)) ∧ (∃ l ∈ Kn.allNs b, u.hi = ((l[e]?.getD default : Nat) : Int)) ∧ ∀ l ∈ Kn.allNs b, u.lo ≤ ((l[e]?.getD default : Nat) : Int) ∧ ((l[e]?.getD default : Nat) : Int) ≤ u.hi := by
 have hw : Kn.within (e : Int) 0 b.cords.length = true := by simp [Kn.within]; omega
 have hcs : Kn.colS b e (Kn.allNs b).length = (Kn.allNs b).map fun l => ((l[e]?.getD default : Nat) : Int) := by
  unfold Kn.colS
  rw [List.take_length]
 obtain ⟨h1, h2, h3⟩ := Kn.spanL_map (fun l : List Nat => ((l[e]?.getD default : Nat) : Int)) hpos
 refine ⟨Kn.spanL ((Kn.allNs b).map fun l => ((l[e]?.getD default : Nat) : Int)) (Kn.allNs b).length, ?_, h1, h2, h3⟩
 unfold Kn.sureR Kn.ansS
 rw [hc0, hw, if_pos rfl, if_pos rfl, if_neg (by omega), Int.toNat_natCast, hcs]
theorem sure_bd {b : Kn.Bk} (hc0 : Kn.checkB b = true) (hpos : 0 < (Kn.allNs b).length) {e : Nat} (he : e ≤ b.cords.length) :
  ∃ u : Kn.Sp, Kn.sureR b e = (u, 0) ∧ 0 ≤ u.lo ∧ u.lo ≤ u.hi := by
 obtain ⟨u, h1, ⟨l1, h2, h3⟩, _, h5⟩ := sure_is hc0 hpos he
 have := h5 l1 h2
 exact ⟨u, h1, by omega, by omega⟩
def sureI (b : Kn.Bk) (m : Bool) (w : Nat) : Int := min 20 (if m = true then (Kn.sureR b w).1.hi else (Kn.sureR b w).1.lo)
def sureW (b : Kn.Bk) (m : Bool) (n : Nat) : List Int := (List.range n).map (sureI b m)
theorem sureW_len (b : Kn.Bk) (m : Bool) (n : Nat) : (sureW b m n).length = n := by simp [sureW]
theorem sureW_at (b : Kn.Bk) (m : Bool) {n i : Nat} (hi : i < n) : (sureW b m n)[i]?.getD default = sureI b m i := by
 simp [sureW, hi]
theorem sureI_bd {b : Kn.Bk} (hc0 : Kn.checkB b = true) (hpos : 0 < (Kn.allNs b).length) (m : Bool) {e : Nat} (he : e ≤ b.cords.length) : 0 ≤ sureI b m e ∧ sureI b m e ≤ 20 := by
 obtain ⟨u, h1, h2, h3⟩ := sure_bd hc0 hpos he
 unfold sureI
 rw [h1]
 dsimp only
 split <;> omega
theorem sureW_succ (b : Kn.Bk) (m : Bool) (n : Nat) : sureW b m (n + 1) = sureW b m n ++ [sureI b m n] := by
 simp [sureW, List.range_succ]
theorem c23 (t : Tn) (hv : Vb t) (b : Kn.Bk) (hc0 : Kn.checkB b = true) (hs : Kn.Small b) (hpos : 0 < (Kn.allNs b).length) (hl : t.ws.length = b.cords.length) (m : Bool) :
  Ctr Tryz.prog 23 [TB t, Kn.KB b, .bool m] (.tup [TB (fillW t (sureW b m t.ws.length)), .bool true]) := by
 refine ctr_of_wp hmix Tryz.func23 m23g rfl ?_
 unfold v23g
 have n1 := hv.n1
 have n2 := hv.n2
 have n3 := hv.n3
 simp -failIfUnchanged (disch := first|omega|(simp<;>omega)|fail) only [go_sem,simprocAttr]
 refine wcall_in hmix Tryz.func74 m74g rfl ?_
 unfold v74g
 simp -failIfUnchanged (disch := first|omega|(simp<;>omega)|fail) only [go_sem,simprocAttr]
 refine wp_loop' Nat (fun i => ⟨[(2, .bool m), (4, .ptr 4 0), (6, .ptr 6 0), (8, .ptr 8 0), (9, .int i)], [(8, ⟨[.gsl 1 0 0 1 t.hs.length false, .gsl 2 0 0 1 t.ws.length false, .gsl 3 0 0 2 t.wy.length true], false⟩), (K 3 0 0, ⟨flat (t.wy.map WYv), false⟩), (K 2 0 0, ⟨(sureW b m i ++ t.ws.drop i).map .int, false⟩), (K 1 0 0, ⟨t.hs.map .int, false⟩), (6, ⟨[.sl 1 [] .full, .sl 1 [] .full, .sl 2 [] .full], false⟩), (4, ⟨[.int b.base, .int b.places, .sl 1 (b.cords.map Kn.SS) .sh, Kn.SS b.top], false⟩)], [], none⟩) (fun i => i ≤ t.ws.length) (fun i => t.ws.length - i) 0 (by simp) (by simp -failIfUnchanged (disch := first|omega|(simp<;>omega)|fail) only [go_sem,simprocAttr]; try simp [sureW]) ?_
 intro i hi
 have hi : i ≤ t.ws.length := hi
 have hln : (sureW b m i ++ t.ws.drop i).length = t.ws.length := by rw [List.length_append, sureW_len, List.length_drop]; omega
 by_cases hlt : i < t.ws.length
 ·have hst : (sureW b m i ++ t.ws.drop i).set i (sureI b m i) = sureW b m (i + 1) ++ t.ws.drop (i + 1) := by
   rw [sureW_succ, List.set_append_right _ _ (by rw [sureW_len]; omega), sureW_len, Nat.sub_self, List.drop_eq_getElem_cons hlt, List.set_cons_zero]
   simp only [List.append_assoc, List.singleton_append]
  obtain ⟨u, hu, hu0, hu1⟩ := sure_bd hc0 hpos (e := i) (by omega)
  have hI : sureI b m i = min 20 (if m = true then u.hi else u.lo) := by unfold sureI; rw [hu]
  obtain ⟨E, hE⟩ : ∃ E, sureW b m i ++ t.ws.drop i = E := ⟨_, rfl⟩
  rw [hE] at hln hst ⊢
  simp -failIfUnchanged (disch := first|omega|(simp<;>omega)|fail) only [go_sem,simprocAttr]
  refine wcond_dec (fun h => ?_) (fun h => ?_)
  ·simp -failIfUnchanged (disch := first|omega|(simp<;>omega)|fail) only [go_sem,simprocAttr]
   refine wcall (Kn.c16r b hs i) ?_
   rw [hu]
   simp -failIfUnchanged (disch := first|omega|(simp<;>omega)|fail) only [go_sem,simprocAttr]
   have e2 : decide (u.lo < 0) = false := decide_eq_false (by omega)
   have e3 : decide (u.hi < u.lo) = false := decide_eq_false (by omega)
   refine wcond_bool (fun hm => ?_) (fun hm => ?_)
   ·rw [if_pos hm] at hI
    rw [hI] at hst
    simp -failIfUnchanged (disch := first|omega|(simp<;>omega)|fail) only [go_sem,simprocAttr, e2, e3]
    refine wopsN [] ?_
    simp -failIfUnchanged (disch := first|omega|(simp<;>omega)|fail) only [go_sem,simprocAttr]
    refine ⟨i + 1, by dsimp only; omega, by dsimp only; omega, ?_⟩
    dsimp only
    rw [← hst]
    simp -failIfUnchanged (disch := first|omega|(simp<;>omega)|fail) only [go_sem,simprocAttr]
    try simp
   ·rw [if_neg (by simp [hm])] at hI
    rw [hI] at hst
    simp -failIfUnchanged (disch := first|omega|(simp<;>omega)|fail) only [go_sem,simprocAttr, e2, e3]
    refine wopsN [] ?_
    simp -failIfUnchanged (disch := first|omega|(simp<;>omega)|fail) only [go_sem,simprocAttr]
    refine ⟨i + 1, by dsimp only; omega, by dsimp only; omega, ?_⟩
    dsimp only
    rw [← hst]
    simp -failIfUnchanged (disch := first|omega|(simp<;>omega)|fail) only [go_sem,simprocAttr]
    try simp
  ·omega
 ·have hie : i = t.ws.length := by omega
  have hE : sureW b m i ++ t.ws.drop i = sureW b m t.ws.length := by rw [hie, List.drop_eq_nil_of_le (Nat.le_refl _), List.append_nil]
  have hlw := sureW_len b m t.ws.length
  rw [hE]
  simp -failIfUnchanged (disch := first|omega|(simp<;>omega)|fail) only [go_sem,simprocAttr]
  refine wcond_dec (fun h => ?_) (fun h => ?_)
  ·omega
  simp -failIfUnchanged (disch := first|omega|(simp<;>omega)|fail) only [go_sem,simprocAttr]
  refine wopsN [K 1 0 0, K 2 0 0, K 3 0 0] ?_
  simp -failIfUnchanged (disch := first|omega|(simp<;>omega)|fail) only [go_sem,simprocAttr, chunks_ints, chunks_flatW, Nat.le_refl, hlw]
  rfl
end Go.Proofs.YtpangdaijhiohaaGreatDoor.To

set_option linter.unusedSimpArgs false
set_option linter.unusedVariables false
set_option linter.unnecessarySimpa false
namespace Go.Proofs.YtpangdaijhiohaaGreatDoor.To
open Go Go.V Mo Bu Bd
theorem has_M4 : gauR bxM 4 = .tup [IS [3, 1, 0], .int 0] := by kernel_rfl
theorem sure_K0 : Kn.sureR Kn.bkK 0 = (⟨12, 13⟩, 0) := by
 obtain ⟨u, h1, ⟨l1, h2, h3⟩, ⟨l2, h4, h5⟩, h6⟩ := sure_is Kn.ckK (by rw [Kn.allK]; decide) (e := 0) (by decide)
 rw [Kn.allK] at h2 h4 h6
 have a := h6 [12, 15, 27] (by simp)
 have b := h6 [13, 15, 28] (by simp)
 simp only [List.mem_cons, List.not_mem_nil, or_false] at h2 h4
 have h7 : u = ⟨12, 13⟩ := by
  obtain ⟨lo, hi⟩ := u
  simp only [List.getElem?_cons_zero, Option.getD_some] at a b
  congr
  ·rcases h2 with rfl | rfl
   ·simpa using h3
   ·simp at h3; omega
  ·rcases h4 with rfl | rfl
   ·simp at h5; omega
   ·simpa using h5
 rw [← h7]
 exact h1
theorem c21 : Ctr Tryz.prog 21 [] (.bool true) := by
 refine ctr_of_wp hmix Tryz.func21 m21 rfl ?_
 unfold v21
 simp -failIfUnchanged (disch := first|omega|(simp<;>omega)|fail) only [go_sem,simprocAttr]
 refine wcall c69 ?_
 simp -failIfUnchanged (disch := first|omega|(simp<;>omega)|fail) only [go_sem,simprocAttr]
 refine wcall c70 ?_
 simp -failIfUnchanged (disch := first|omega|(simp<;>omega)|fail) only [go_sem,simprocAttr]
 refine wcall Kn.c44 ?_
 simp -failIfUnchanged (disch := first|omega|(simp<;>omega)|fail) only [go_sem,simprocAttr]
 refine wcall (c24 exB chk_B) ?_
 rw [lks_B]
 simp -failIfUnchanged (disch := first|omega|(simp<;>omega)|fail) only [go_sem,simprocAttr]
 refine wcall (c31 bxM 4) ?_
 rw [has_M4]
 simp -failIfUnchanged (disch := first|omega|(simp<;>omega)|fail) only [go_sem,simprocAttr]
 refine wcall (Kn.c16r Kn.bkK Kn.smK 0) ?_
 rw [sure_K0]
 simp -failIfUnchanged (disch := first|omega|(simp<;>omega)|fail) only [go_sem,simprocAttr]
 refine wcall (Mo.c47 [2, 2, 1] [2, 2, 1] (by simp)) ?_
 simp -failIfUnchanged (disch := first|omega|(simp<;>omega)|fail) only [go_sem,simprocAttr]
 refine wcall (Mo.c47 [3, 1, 0] [3, 1, 0] (by simp)) ?_
 simp -failIfUnchanged (disch := first|omega|(simp<;>omega)|fail) only [go_sem,simprocAttr]
 try simp
end Go.Proofs.YtpangdaijhiohaaGreatDoor.To

set_option linter.unusedSimpArgs false
set_option linter.unusedVariables false
set_option linter.unnecessarySimpa false
namespace Go.Proofs.YtpangdaijhiohaaGreatDoor.To
open Go Go.V Mo Bu Bd
theorem in_span {b : Kn.Bk} (hc0 : Kn.checkB b = true) (hpos : 0 < (Kn.allNs b).length) {e : Nat} (he : e ≤ b.cords.length) (m : Bool) : sureI b false e ≤ sureI b true e ∧ sureI b m e = min 20 (if m = true then (Kn.sureR b e).1.hi else (Kn.sureR b e).1.lo) := by
 obtain ⟨u, h1, h2, h3⟩ := sure_bd hc0 hpos he
 refine ⟨?_, rfl⟩
 unfold sureI
 rw [h1]
 dsimp only
 rw [if_neg (by simp), if_pos rfl]
 omega
theorem cA_sureW (b : Kn.Bk) (m : Bool) {n i : Nat} (hi : i < n) : cA (sureW b m n) i = sureI b m i := sureW_at b m hi
theorem c4 (t : Tn) (b : Kn.Bk) (h1 : b.cords.length < 9223372036854775808) (c p lo hi : Int) : Ctr Tryz.prog 4 [TB t, Kn.KB b, .agg [.int c, .int p, .int lo, .int hi]] (.bool true) := by
 refine ctr_of_wp hmix Tryz.func4 m4 rfl ?_
 unfold v4
 simp -failIfUnchanged (disch := first|omega|(simp<;>omega)|fail) only [go_sem,simprocAttr]
 refine wcall (c17 t) ?_
 cases hfar : Bd.farB t with
 | true =>
  simp -failIfUnchanged (disch := first|omega|(simp<;>omega)|fail) only [go_sem,simprocAttr]
  refine wcall c21 ?_
  simp -failIfUnchanged (disch := first|omega|(simp<;>omega)|fail) only [go_sem,simprocAttr]
  try simp
 | false =>
  simp -failIfUnchanged (disch := first|omega|(simp<;>omega)|fail) only [go_sem,simprocAttr]
  refine wcall (c18 t) ?_
  cases hck : chkB t with
  | false =>
   rw [if_neg (by simp)]
   simp -failIfUnchanged (disch := first|omega|(simp<;>omega)|fail) only [go_sem,simprocAttr]
   refine wcall c21 ?_
   simp -failIfUnchanged (disch := first|omega|(simp<;>omega)|fail) only [go_sem,simprocAttr]
   try simp
  | true =>
   rw [if_pos rfl]
   simp -failIfUnchanged (disch := first|omega|(simp<;>omega)|fail) only [go_sem,simprocAttr]
   refine wcall (Kn.c6 b h1) ?_
   cases hfb : Kn.farB b with
   | true =>
    simp -failIfUnchanged (disch := first|omega|(simp<;>omega)|fail) only [go_sem,simprocAttr]
    refine wcall c21 ?_
    simp -failIfUnchanged (disch := first|omega|(simp<;>omega)|fail) only [go_sem,simprocAttr]
    try simp
   | false =>
    have hs := Kn.small_small (Kn.far_false hfb).1
    simp -failIfUnchanged (disch := first|omega|(simp<;>omega)|fail) only [go_sem,simprocAttr]
    refine wcall (Kn.c7 b hs) ?_
    cases hcb : Kn.checkB b with
    | false =>
     rw [if_neg (by simp)]
     simp -failIfUnchanged (disch := first|omega|(simp<;>omega)|fail) only [go_sem,simprocAttr]
     refine wcall c21 ?_
     simp -failIfUnchanged (disch := first|omega|(simp<;>omega)|fail) only [go_sem,simprocAttr]
     try simp
    | true =>
     rw [if_pos rfl]
     have hv := vb_of hck
     have hb := Kn.val_of_check hcb
     have n1 := hv.n1
     have n2 := hv.n2
     have n3 := hv.n3
     have n5 := hb.hc
     have n6 := hb.hp
     simp -failIfUnchanged (disch := first|omega|(simp<;>omega)|fail) only [go_sem,simprocAttr]
     refine WGd_bool (fun hl => ?_) (fun hl => ?_)
     ·simp -failIfUnchanged (disch := first|omega|(simp<;>omega)|fail) only [go_sem,simprocAttr, hl]
      have hl' : t.ws.length = b.cords.length := by
       have := of_decide_eq_false hl
       omega
      refine wcall (Kn.c19 b c) ?_
      cases h4 : Kn.within c 0 b.cords.length with
      | false =>
       simp -failIfUnchanged (disch := first|omega|(simp<;>omega)|fail) only [go_sem,simprocAttr]
       refine wcall c21 ?_
       simp -failIfUnchanged (disch := first|omega|(simp<;>omega)|fail) only [go_sem,simprocAttr]
       try simp
      | true =>
       simp -failIfUnchanged (disch := first|omega|(simp<;>omega)|fail) only [go_sem,simprocAttr]
       refine wcall (Kn.c20 b p) ?_
       cases h5 : Kn.within p 0 (w64 (b.places - 1)) with
       | false =>
        simp -failIfUnchanged (disch := first|omega|(simp<;>omega)|fail) only [go_sem,simprocAttr]
        refine wcall c21 ?_
        simp -failIfUnchanged (disch := first|omega|(simp<;>omega)|fail) only [go_sem,simprocAttr]
        try simp
       | true =>
        obtain ⟨cn, rfl, hcn⟩ : ∃ cn : Nat, c = cn ∧ cn ≤ b.cords.length := ⟨c.toNat, by simp [Kn.within] at h4; omega, by simp [Kn.within] at h4; omega⟩
        obtain ⟨pn, rfl, hpn⟩ : ∃ pn : Nat, p = pn ∧ pn < b.places.toNat := ⟨p.toNat, by simp [Kn.within] at h5; omega, by rw [w64_id (by omega)] at h5; simp [Kn.within] at h5; omega⟩
        simp -failIfUnchanged (disch := first|omega|(simp<;>omega)|fail) only [go_sem,simprocAttr]
        refine wcall (Kn.c22k b hs hcb) ?_
        have e1 : decide (((Kn.allNs b).length : Int) < 0) = false := by simp
        simp -failIfUnchanged (disch := first|omega|(simp<;>omega)|fail) only [go_sem,simprocAttr, e1]
        refine wcond_dec (fun h6 => ?_) (fun h6 => ?_)
        ·simp -failIfUnchanged (disch := first|omega|(simp<;>omega)|fail) only [go_sem,simprocAttr]
         refine wcall c21 ?_
         simp -failIfUnchanged (disch := first|omega|(simp<;>omega)|fail) only [go_sem,simprocAttr]
         try simp
        ·have hpos : 0 < (Kn.allNs b).length := by omega
         have hln : ∀ m, (sureW b m t.ws.length).length = t.ws.length := fun m => sureW_len b m _
         have hcw : ∀ m, chkB (fillW t (sureW b m t.ws.length)) = true := fun m => chk_fillW hck (sureW_len _ _ _) (fun i hi => by
          rw [sureW_len] at hi
          rw [sureW_at b m hi]
          exact sureI_bd hcb hpos m (by omega))
         have hnl : elr (lks (fillW t (sureW b false t.ws.length))) (lks (fillW t (sureW b true t.ws.length))) = false := not_lessW (hcw false) (hcw true) (by rw [sureW_len, sureW_len]) (fun w hw => by
          rw [sureW_len] at hw
          rw [cA_sureW b _ hw, cA_sureW b _ hw]
          exact (in_span hcb hpos (by omega) true).1)
         simp -failIfUnchanged (disch := first|omega|(simp<;>omega)|fail) only [go_sem,simprocAttr]
         refine wcall (c23 t hv b hcb hs hpos hl' false) ?_
         simp -failIfUnchanged (disch := first|omega|(simp<;>omega)|fail) only [go_sem,simprocAttr]
         refine wcall (c23 t hv b hcb hs hpos hl' true) ?_
         obtain ⟨A, hA⟩ : ∃ A, fillW t (sureW b false t.ws.length) = A := ⟨_, rfl⟩
         obtain ⟨B, hB⟩ : ∃ B, fillW t (sureW b true t.ws.length) = B := ⟨_, rfl⟩
         have cA' := hcw false
         have cB' := hcw true
         rw [hA] at cA' hnl
         rw [hB] at cB' hnl
         rw [hA, hB]
         simp -failIfUnchanged (disch := first|omega|(simp<;>omega)|fail) only [go_sem,simprocAttr]
         refine wcall (c17 B) ?_
         cases hfB : Bd.farB B with
         | true =>
          simp -failIfUnchanged (disch := first|omega|(simp<;>omega)|fail) only [go_sem,simprocAttr]
          refine wcall c21 ?_
          simp -failIfUnchanged (disch := first|omega|(simp<;>omega)|fail) only [go_sem,simprocAttr]
          try simp
         | false =>
          have lA : (lks A).length = t.hs.length := by rw [lks_len, ← hA]; rfl
          have lB : (lks B).length = t.hs.length := by rw [lks_len, ← hB]; rfl
          simp -failIfUnchanged (disch := first|omega|(simp<;>omega)|fail) only [go_sem,simprocAttr]
          refine wcall (c24 A cA') ?_
          simp -failIfUnchanged (disch := first|omega|(simp<;>omega)|fail) only [go_sem,simprocAttr]
          refine wcall (c24 B cB') ?_
          obtain ⟨La, hLa⟩ : ∃ L, lks A = L := ⟨_, rfl⟩
          obtain ⟨Lb, hLb⟩ : ∃ L, lks B = L := ⟨_, rfl⟩
          rw [hLa] at lA hnl ⊢
          rw [hLb] at lB hnl ⊢
          simp -failIfUnchanged (disch := first|omega|(simp<;>omega)|fail) only [go_sem,simprocAttr, lA, lB]
          refine wcall (Bd.c25 La Lb (by omega) (by omega)) ?_
          rw [hnl]
          simp -failIfUnchanged (disch := first|omega|(simp<;>omega)|fail) only [go_sem,simprocAttr]
          refine wcall (Kn.c26 b cn hcn) ?_
          have hlen : (Kn.cordAt b cn).length = b.places.toNat := by have := (Kn.cordAt_val hb hcn).1; omega
          simp -failIfUnchanged (disch := first|omega|(simp<;>omega)|fail) only [go_sem,simprocAttr]
          refine WGd_bool (fun h7 => ?_) (fun h7 => ?_)
          ·simp -failIfUnchanged (disch := first|omega|(simp<;>omega)|fail) only [go_sem,simprocAttr, h7]
           refine WGd_bool (fun h8 => ?_) (fun h8 => ?_)
           ·simp -failIfUnchanged (disch := first|omega|(simp<;>omega)|fail) only [go_sem,simprocAttr, h8]
            refine wcond_dec (fun h9 => ?_) (fun h9 => ?_)
            ·simp -failIfUnchanged (disch := first|omega|(simp<;>omega)|fail) only [go_sem,simprocAttr]
             refine wcall c21 ?_
             simp -failIfUnchanged (disch := first|omega|(simp<;>omega)|fail) only [go_sem,simprocAttr]
             try simp
            ·have h7' := of_decide_eq_false h7
             have h8' := of_decide_eq_false h8
             obtain ⟨hc1, hc2⟩ := Kn.cordAt_val hb hcn
             have hsp := hc2 _ (Kn.mem_getD (show pn < (Kn.cordAt b cn).length by omega))
             have hss : 0 ≤ lo ∧ lo ≤ hi ∧ hi < b.base := ⟨by omega, by omega, by omega⟩
             have hin : (Kn.cordSp b cn pn).lo ≤ lo ∧ hi ≤ (Kn.cordSp b cn pn).hi := ⟨by unfold Kn.cordSp; omega, by unfold Kn.cordSp; omega⟩
             have c27' := Kn.c27r b hb cn pn ⟨lo, hi⟩ hcn hpn
             have hv' := Kn.val_with hb (p := pn) (s := ⟨lo, hi⟩) hcn hss
             have hc0' := Kn.check_of_val hv'
             have hs' := Kn.small_with hb cn pn ⟨lo, hi⟩
             have hsw : ∀ (_ : 0 < (Kn.allNs (Kn.withB b cn pn ⟨lo, hi⟩)).length) {e : Nat} (_ : e ≤ b.cords.length), _ := fun h {e} he => Kn.sure_with (s := ⟨lo, hi⟩) hcb hcn hpn hss hin hc0' h he
             have hwl := Kn.withB_len b cn pn ⟨lo, hi⟩
             obtain ⟨b', hb'⟩ : ∃ b', Kn.withB b cn pn ⟨lo, hi⟩ = b' := ⟨_, rfl⟩
             rw [hb'] at c27' hv' hc0' hs' hsw hwl
             simp -failIfUnchanged (disch := first|omega|(simp<;>omega)|fail) only [go_sem,simprocAttr]
             refine wcall c27' ?_
             simp -failIfUnchanged (disch := first|omega|(simp<;>omega)|fail) only [go_sem,simprocAttr]
             refine wcall (Kn.c22k b' hs' hc0') ?_
             have e2 : decide (((Kn.allNs b').length : Int) < 0) = false := by simp
             simp -failIfUnchanged (disch := first|omega|(simp<;>omega)|fail) only [go_sem,simprocAttr, e2]
             refine wcond_dec (fun h10 => ?_) (fun h10 => ?_)
             ·simp -failIfUnchanged (disch := first|omega|(simp<;>omega)|fail) only [go_sem,simprocAttr]
              refine wcall c21 ?_
              simp -failIfUnchanged (disch := first|omega|(simp<;>omega)|fail) only [go_sem,simprocAttr]
              try simp
             ·have hpos' : 0 < (Kn.allNs b').length := by omega
              have hcw' : ∀ m, chkB (fillW t (sureW b' m t.ws.length)) = true := fun m => chk_fillW hck (sureW_len _ _ _) (fun i hi => by
               rw [sureW_len] at hi
               rw [sureW_at b' m hi]
               exact sureI_bd hc0' hpos' m (by omega))
              have hcmp : ∀ w, w < t.ws.length → sureI b false w ≤ sureI b' false w ∧ sureI b' true w ≤ sureI b true w := fun w hw => by
               obtain ⟨u, v, q1, q2, q3, q4, q5⟩ := hsw hpos' (e := w) (by omega)
               unfold sureI
               rw [q1, q2]
               simp only [Bool.false_eq_true, if_false, if_true]
               omega
              have hn1 : elr (lks A) (lks (fillW t (sureW b' false t.ws.length))) = false := by
               rw [← hA]
               exact not_lessW (hcw false) (hcw' false) (by rw [sureW_len, sureW_len]) (fun w hw => by
                rw [sureW_len] at hw
                rw [cA_sureW b _ hw, cA_sureW b' _ hw]
                exact (hcmp w hw).1)
              have hn2 : elr (lks (fillW t (sureW b' true t.ws.length))) (lks B) = false := by
               rw [← hB]
               exact not_lessW (hcw' true) (hcw true) (by rw [sureW_len, sureW_len]) (fun w hw => by
                rw [sureW_len] at hw
                rw [cA_sureW b _ hw, cA_sureW b' _ hw]
                exact (hcmp w hw).2)
              simp -failIfUnchanged (disch := first|omega|(simp<;>omega)|fail) only [go_sem,simprocAttr]
              refine wcall (c23 t hv b' hc0' hs' hpos' (by omega) false) ?_
              simp -failIfUnchanged (disch := first|omega|(simp<;>omega)|fail) only [go_sem,simprocAttr]
              refine wcall (c23 t hv b' hc0' hs' hpos' (by omega) true) ?_
              obtain ⟨A2, hA2⟩ : ∃ A, fillW t (sureW b' false t.ws.length) = A := ⟨_, rfl⟩
              obtain ⟨B2, hB2⟩ : ∃ B, fillW t (sureW b' true t.ws.length) = B := ⟨_, rfl⟩
              have cA2 := hcw' false
              have cB2 := hcw' true
              rw [hA2] at cA2 hn1
              rw [hB2] at cB2 hn2
              rw [hA2, hB2]
              rw [hLa] at hn1
              rw [hLb] at hn2
              simp -failIfUnchanged (disch := first|omega|(simp<;>omega)|fail) only [go_sem,simprocAttr]
              refine wcall (c17 A2) ?_
              cases hfA2 : Bd.farB A2 with
              | true =>
               simp -failIfUnchanged (disch := first|omega|(simp<;>omega)|fail) only [go_sem,simprocAttr]
               refine wcall c21 ?_
               simp -failIfUnchanged (disch := first|omega|(simp<;>omega)|fail) only [go_sem,simprocAttr]
               try simp
              | false =>
               simp -failIfUnchanged (disch := first|omega|(simp<;>omega)|fail) only [go_sem,simprocAttr]
               refine wcall (c17 B2) ?_
               cases hfB2 : Bd.farB B2 with
               | true =>
                simp -failIfUnchanged (disch := first|omega|(simp<;>omega)|fail) only [go_sem,simprocAttr]
                refine wcall c21 ?_
                simp -failIfUnchanged (disch := first|omega|(simp<;>omega)|fail) only [go_sem,simprocAttr]
                try simp
               | false =>
                have lA2 : (lks A2).length = t.hs.length := by rw [lks_len, ← hA2]; rfl
                have lB2 : (lks B2).length = t.hs.length := by rw [lks_len, ← hB2]; rfl
                simp -failIfUnchanged (disch := first|omega|(simp<;>omega)|fail) only [go_sem,simprocAttr]
                refine wcall (c24 A2 cA2) ?_
                simp -failIfUnchanged (disch := first|omega|(simp<;>omega)|fail) only [go_sem,simprocAttr]
                refine wcall (c24 B2 cB2) ?_
                obtain ⟨Lc, hLc⟩ : ∃ L, lks A2 = L := ⟨_, rfl⟩
                obtain ⟨Ld, hLd⟩ : ∃ L, lks B2 = L := ⟨_, rfl⟩
                rw [hLc] at lA2 hn1 ⊢
                rw [hLd] at lB2 hn2 ⊢
                simp -failIfUnchanged (disch := first|omega|(simp<;>omega)|fail) only [go_sem,simprocAttr, lA, lA2, lB2]
                refine wcall (Bd.c25 La Lc (by omega) (by omega)) ?_
                rw [hn1]
                simp -failIfUnchanged (disch := first|omega|(simp<;>omega)|fail) only [go_sem,simprocAttr]
                refine wcall (Bd.c25 Ld Lb (by omega) (by omega)) ?_
                rw [hn2]
                simp -failIfUnchanged (disch := first|omega|(simp<;>omega)|fail) only [go_sem,simprocAttr]
                refine wcall c21 ?_
                simp -failIfUnchanged (disch := first|omega|(simp<;>omega)|fail) only [go_sem,simprocAttr]
                try simp
           ·simp -failIfUnchanged (disch := first|omega|(simp<;>omega)|fail) only [go_sem,simprocAttr, h8]
            refine wcall c21 ?_
            simp -failIfUnchanged (disch := first|omega|(simp<;>omega)|fail) only [go_sem,simprocAttr]
            try simp
          ·simp -failIfUnchanged (disch := first|omega|(simp<;>omega)|fail) only [go_sem,simprocAttr, h7]
           refine wcall c21 ?_
           simp -failIfUnchanged (disch := first|omega|(simp<;>omega)|fail) only [go_sem,simprocAttr]
           try simp
     ·simp -failIfUnchanged (disch := first|omega|(simp<;>omega)|fail) only [go_sem,simprocAttr, hl]
      refine wcall c21 ?_
      simp -failIfUnchanged (disch := first|omega|(simp<;>omega)|fail) only [go_sem,simprocAttr]
      try simp
end Go.Proofs.YtpangdaijhiohaaGreatDoor.To

set_option linter.unusedSimpArgs false
set_option linter.unusedVariables false
set_option linter.unnecessarySimpa false
namespace Go.Proofs.YtpangdaijhiohaaGreatDoor.Bd
open Go Go.V Mo Bu Go.ChangeShapes Go.WideShapes Go.ChangeAt Go.RowKit
theorem ty_wys {cs : List AV} (h : Ty (.sl (.st [.int, .int])) cs) : ∃ l : List Wy, cs = [WS l] := by
 rw [Ty] at h
 obtain ⟨es, rfl, h1, h2⟩ := h
 obtain ⟨l, h3, _, _⟩ := map_choose (F := fun x => if TC.isSt (.st [.int, .int]) then AV.agg x else x[0]?.getD .und) (G := WYv) (Q := fun _ => True) es (fun x hx => by
  have := h2 x hx
  rw [Ty] at this
  simp only [TyL] at this
  obtain ⟨a, r, rfl, ha, b, r2, rfl, hb, rfl⟩ := this
  rw [Ty] at ha hb
  obtain ⟨n, _, rfl⟩ := ha
  obtain ⟨m, _, rfl⟩ := hb
  exact ⟨⟨n, m⟩, rfl, trivial⟩)
 refine ⟨l, ?_⟩
 rw [h3]
 rfl
theorem ty_tn {av : AV} (h : TyV (.st [.sl .int, .sl .int, .sl (.st [.int, .int])]) av) : ∃ t : Tn, av = TB t := by
 obtain ⟨cs, rfl, h⟩ := h
 simp only [TyL] at h
 obtain ⟨a, x, rfl, ha, b, y, rfl, hb, c, z, rfl, hc, rfl⟩ := h
 obtain ⟨l, rfl, _⟩ := ty_is ha
 obtain ⟨m, rfl, _⟩ := ty_is hb
 obtain ⟨k, rfl⟩ := ty_wys hc
 exact ⟨⟨l, m, k⟩, rfl⟩
theorem gNone : Tryz.prog.globalNamed "steening/buckets.none" = some 0 := by kernel_rfl
theorem tNone : (Tryz.prog.globals[0]?).map (·.type) = some 176 := by kernel_rfl
abbrev laid1 : List (String × DataW Unit) := [("steening/buckets.none", Rows.laid_steening_buckets_none)]
theorem of_laid {W : World} (h : laidMetH Tryz.prog laid1 W) : W.cell? ⟨0, 0, none⟩ = some (.int .i64 (-1)) ∧ W.cell? ⟨0, 1, none⟩ = some (.int .i64 (-1)) ∧ W.cell? ⟨0, 2, none⟩ = some (.int .i64 0) := by
 rw [MakeChecks.laidMetH_plain _ _ _ (by kernel_rfl)] at h
 obtain ⟨ps, ⟨g0, t0, cs0, f0, p0, q0, hg0, ht0, hv0, hd0, rest⟩, rest2⟩ := h
 obtain rfl := Option.some.inj (gNone.symm.trans hg0)
 obtain rfl := Option.some.inj (tNone.symm.trans ht0)
 obtain ⟨y0, y1, y2, n, hx, hlen, k0, k1, k2⟩ := Go.Deep.trod_struct3 Tryz.underlying176 hd0
 obtain ⟨m0, c0, x0, _⟩ := DataW.trod_int Tryz.underlying3 k0
 obtain ⟨m1, c1, x1, _⟩ := DataW.trod_int Tryz.underlying3 k1
 obtain ⟨m2, c2, x2, _⟩ := DataW.trod_int Tryz.underlying3 k2
 subst x0 x1 x2
 have c3 : Tryz.prog.cellsOf 3 = 1 := by kernel_rfl
 have c176 : Tryz.prog.cellsOf 176 = 3 := by kernel_rfl
 rw [c176] at hlen
 have h0 := World.var?_cell hg0 hv0 0
 have h1 := World.var?_cell hg0 hv0 1
 have h2 := World.var?_cell hg0 hv0 2
 obtain ⟨l⟩ := cs0
 have hl3 : l.length = 3 := hlen
 have hx' : (Rows.laid_steening_buckets_none : DataW Unit) = .agg [.lit (.int .i64 m0), .lit (.int .i64 m1), .lit (.int .i64 m2)] := (Prod.mk.inj hx).1
 have d0 : List.take (Tryz.prog.cellsOf 3) (List.drop 0 l) = [.int .i64 m0] := c0
 have d1 : List.take (Tryz.prog.cellsOf 3) (List.drop 1 l) = [.int .i64 m1] := c1
 have d2 : List.take (Tryz.prog.cellsOf 3) (List.drop 2 l) = [.int .i64 m2] := c2
 rw [c3] at d0 d1 d2
 clear c0 c1 c2 k0 k1 k2 hx hd0 hv0 hg0 ht0 rest rest2 c176 c3 hlen
 obtain ⟨a, b, c, rfl⟩ : ∃ a b c, l = [a, b, c] := by
  match l, hl3 with
  | [a, b, c], _ => exact ⟨a, b, c, rfl⟩
 have ea : a = .int .i64 m0 := by simpa using d0
 have eb : b = .int .i64 m1 := by simpa using d1
 have ec : c = .int .i64 m2 := by simpa using d2
 subst ea eb ec
 unfold Rows.laid_steening_buckets_none at hx'
 simp only [DataW.agg.injEq, List.cons.injEq, DataW.lit.injEq, Lit.int.injEq, true_and, and_true] at hx'
 obtain ⟨rfl, rfl, rfl⟩ := hx'
 exact ⟨h0, h1, h2⟩
theorem gf_of {W : World} (h : laidMetH Tryz.prog laid1 W) : GF (CAll W) W := by
 obtain ⟨h0, h1, h2⟩ := of_laid h
 intro x hx
 have : x = (0, 0, -1) ∨ x = (0, 1, -1) ∨ x = (0, 2, 0) := by simpa [GL] using hx
 rcases this with rfl | rfl | rfl
 ·exact ⟨World.block_lt_of_cell? W _ h0, h0⟩
 ·exact ⟨World.block_lt_of_cell? W _ h1, h1⟩
 ·exact ⟨World.block_lt_of_cell? W _ h2, h2⟩
end Go.Proofs.YtpangdaijhiohaaGreatDoor.Bd
namespace Go.Proofs.YtpangdaijhiohaaGreatDoor.To
open Go Go.V
theorem ty_cnt {av : AV} (h : TyV (.st [.int, .int, .st [.int, .int]]) av) : ∃ c p lo hi : Int, av = .agg [.int c, .int p, .int lo, .int hi] := by
 obtain ⟨cs, rfl, h⟩ := h
 simp only [TyL] at h
 obtain ⟨a, x, rfl, ha, b, y, rfl, hb, c, z, rfl, hc, rfl⟩ := h
 rw [Ty] at ha hb
 obtain ⟨n, _, rfl⟩ := ha
 obtain ⟨m, _, rfl⟩ := hb
 obtain ⟨s, rfl⟩ := Kn.ty_sp hc
 exact ⟨n, m, s.lo, s.hi, rfl⟩
end Go.Proofs.YtpangdaijhiohaaGreatDoor.To
