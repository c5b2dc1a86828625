/- Merged by program: T639, T701, T702, T703, T704, T705, T706, T707, T708, T709, T710, T711. -/
import Derived.Test.YtggnmemkhookdaaGreatDoorM5
import Derived.Handy
import Derived.Test.YtggnmemkhookdaaGreatDoorRows
import Derived.Deep.Strs
import Derived.LaidMore
import Derived.OpenShut
set_option linter.unusedSimpArgs false
set_option linter.unusedVariables false
set_option linter.unnecessarySimpa false
namespace Go.Proofs.YtggnmemkhookdaaGreatDoor.Fi
open Go Go.V Kn
def twP (late : Int) (l : List En) (i k : Nat) : Bool := decide (i < k) && comB late (l[i]?.getD default) (l[k]?.getD default)
def twR (late : Int) (l : List En) (i m : Nat) : List Pa := ((List.range m).filter (twP late l i)).map fun k : Nat => (⟨(i : Int), (k : Int)⟩ : Pa)
def twK (late : Int) (l : List En) : Nat → List Pa
 | 0 => []
 | i + 1 => twK late l i ++ twR late l i l.length
def twcR (b : FB) (n : Int) : AV := .tup [PS (if bkE b n = 0 then twK b.late (bokL b n) (bokL b n).length else []), .int (bkE b n)]
theorem twR_succ (late : Int) (l : List En) (i m : Nat) : twR late l i (m + 1) = twR late l i m ++ (if twP late l i m then [⟨(i : Int), (m : Int)⟩] else []) := by
 unfold twR
 rw [List.range_succ, List.filter_append, List.map_append]
 congr 1
 by_cases h : twP late l i m <;> simp [h]
theorem twR_0 (late : Int) (l : List En) (i : Nat) : twR late l i (i + 1) = [] := by
 unfold twR
 have : (List.range (i + 1)).filter (twP late l i) = [] := by
  rw [List.filter_eq_nil_iff]
  intro k hk
  have := List.mem_range.1 hk
  have : decide (i < k) = false := decide_eq_false (by omega)
  simp [twP, this]
 rw [this]
 rfl
theorem twR_len (late : Int) (l : List En) (i m : Nat) : (twR late l i m).length ≤ m := by
 unfold twR
 rw [List.length_map]
 exact Nat.le_trans (List.length_filter_le _ _) (by simp)
theorem twK_len (late : Int) (l : List En) : ∀ i, (twK late l i).length ≤ i * l.length
 | 0 => by simp [twK]
 | i + 1 => by
  unfold twK
  rw [List.length_append, Nat.succ_mul]
  have := twK_len late l i
  have := twR_len late l i l.length
  omega
theorem bok_v {b : FB} (hv : VF b) {n : Int} {i : Nat} (h : i < (bokL b n).length) : VE b ((bokL b n)[i]?.getD default) := by
 have := mem_getD h
 unfold bokL at this ⊢
 by_cases e : n = 0
 ·rw [if_pos e] at this ⊢; exact hv.e1 _ this
 ·rw [if_neg e] at this ⊢; exact hv.e2 _ this
theorem bok_5 {b : FB} (hv : VF b) (n : Int) : (bokL b n).length ≤ 5 := by
 have := hv.n1
 have := hv.n2
 unfold bokL
 split <;> omega
set_option maxRecDepth 10000 in
theorem c13 (b : FB) (hs : SmF b) (n : Int) : Ctr Tryz.prog 13 [FK b, .int n] (twcR b n) := by
 refine ctr_of_wp hmix Tryz.func13 m13 rfl ?_
 unfold v13 twcR
 have a1 := c32 n 0 1
 have a2 := c31 b hs (within n 0 1)
 obtain ⟨e, hE⟩ : ∃ e, bkE b n = e := ⟨_, rfl⟩
 have hE' : askF b (within n 0 1) = e := hE
 rw [hE'] at a2
 rw [hE]
 simp -failIfUnchanged (disch := first|omega|(simp<;>omega)|fail) only [go_sem,simprocAttr]
 refine wcall a1 ?_
 simp -failIfUnchanged (disch := first|omega|(simp<;>omega)|fail) only [go_sem,simprocAttr]
 refine wcall a2 ?_
 by_cases h0 : e = 0
 ·subst h0
  obtain ⟨hc, hw⟩ := pr_0 hE'
  have hv := vf_of hc
  have k3 := c34 b n
  have hl5 := bok_5 hv n
  have hve : ∀ i, i < (bokL b n).length → VE b ((bokL b n)[i]?.getD default) := fun i hi => bok_v hv hi
  generalize bokL b n = l at k3 hl5 hve ⊢
  have hpl := hv.pl
  simp -failIfUnchanged (disch := first|omega|(simp<;>omega)|fail) only [go_sem,simprocAttr]
  refine wcall k3 ?_
  simp -failIfUnchanged (disch := first|omega|(simp<;>omega)|fail) only [go_sem,simprocAttr]
  refine wp_loop' Nat (fun i => ⟨[(2, .ptr 2 0), (7, ES l), (9, .sl 2 ((twK b.late l i).map PA) (.own 9)), (28, ES l), (29, .int l.length), (30, .int i)], [(2, ⟨FKc b, false⟩)], [(9, (twK b.late l i).length)], none⟩) (fun i => i ≤ l.length) (fun i => l.length - i) 0 (by simp) (by simp -failIfUnchanged (disch := first|omega|(simp<;>omega)|fail) only [go_sem,simprocAttr]; simp [twK]) ?_
  intro i hi
  have hi : i ≤ l.length := hi
  have hkl := twK_len b.late l i
  have hkl2 : i * l.length ≤ 25 := by have := Nat.mul_le_mul (show i ≤ 5 by omega) hl5; omega
  simp -failIfUnchanged (disch := first|omega|(simp<;>omega)|fail) only [go_sem,simprocAttr]
  refine wcond_dec (fun h1 => ?_) (fun h1 => ?_)
  ·have hil : i < l.length := by omega
   obtain ⟨x, hx⟩ : ∃ x, l[i]?.getD default = x := ⟨_, rfl⟩
   have hvx := hve i hil
   rw [hx] at hvx
   have hks : twK b.late l (i + 1) = twK b.late l i ++ twR b.late l i l.length := rfl
   simp -failIfUnchanged (disch := first|omega|(simp<;>omega)|fail) only [go_sem,simprocAttr, hx]
   refine wp_loop' Nat (fun k => ⟨[(2, .ptr 2 0), (7, ES l), (9, .sl 2 ((twK b.late l i ++ twR b.late l i k).map PA) (.own 9)), (10, .int i), (11, .ptr 11 0), (12, .int k), (28, ES l), (29, .int l.length), (30, .int i)],
    [(11, ⟨[.int x.day, .int x.who, SS x.cord], false⟩), (2, ⟨FKc b, false⟩)], [(9, (twK b.late l i ++ twR b.late l i k).length)], none⟩) (fun k => i < k ∧ k ≤ l.length) (fun k => l.length - k) (i + 1) ⟨by omega, by omega⟩ (by rw [twR_0]; simp -failIfUnchanged (disch := first|omega|(simp<;>omega)|fail) only [go_sem,simprocAttr]; simp) ?_
   rintro k ⟨hik, hk⟩
   have hrl := twR_len b.late l i k
   have hal : (twK b.late l i ++ twR b.late l i k).length ≤ 100 := by rw [List.length_append]; omega
   have hrs3 : twK b.late l i ++ twR b.late l i (k + 1) = (twK b.late l i ++ twR b.late l i k) ++ (if twP b.late l i k then [⟨(i : Int), (k : Int)⟩] else []) := by rw [twR_succ, List.append_assoc]
   have hks2 : k = l.length → twK b.late l (i + 1) = twK b.late l i ++ twR b.late l i k := fun e => by subst e; rfl
   generalize twK b.late l i ++ twR b.late l i k = A at hal hrs3 hks2 ⊢
   simp -failIfUnchanged (disch := first|omega|(simp<;>omega)|fail) only [go_sem,simprocAttr]
   refine wcond_dec (fun h2 => ?_) (fun h2 => ?_)
   ·have hkl : k < l.length := by omega
    obtain ⟨y, hy⟩ : ∃ y, l[k]?.getD default = y := ⟨_, rfl⟩
    have hvy := hve k hkl
    rw [hy] at hvy
    have hn2 := hvy.c.n
    have k79 := c35 b.late x y (by rw [both_len hvx.c hvy.c]; exact Nat.le_refl _) (by omega)
    have htp : twP b.late l i k = comB b.late x y := by
     unfold twP
     rw [hx, hy, decide_eq_true hik, Bool.true_and]
    have hrs2 := hrs3
    rw [htp] at hrs2
    simp -failIfUnchanged (disch := first|omega|(simp<;>omega)|fail) only [go_sem,simprocAttr, hy]
    refine wcall k79 ?_
    simp -failIfUnchanged (disch := first|omega|(simp<;>omega)|fail) only [go_sem,simprocAttr]
    cases hcm : comB b.late x y with
    | true =>
     rw [hcm] at hrs2
     simp -failIfUnchanged (disch := first|omega|(simp<;>omega)|fail) only [go_sem,simprocAttr]
     refine ⟨k + 1, ⟨by omega, by omega⟩, by dsimp only; omega, ?_⟩
     dsimp only
     have hln := congrArg List.length hrs2
     simp only [List.length_append, if_true, Bool.false_eq_true, if_false, List.length_cons, List.length_nil] at hln
     rw [hrs2]
     simp -failIfUnchanged (disch := first|omega|(simp<;>omega)|fail) only [go_sem,simprocAttr]
     try simp
     try omega
    | false =>
     rw [hcm] at hrs2
     simp -failIfUnchanged (disch := first|omega|(simp<;>omega)|fail) only [go_sem,simprocAttr]
     refine ⟨k + 1, ⟨by omega, by omega⟩, by dsimp only; omega, ?_⟩
     dsimp only
     have hln := congrArg List.length hrs2
     simp only [List.length_append, if_true, Bool.false_eq_true, if_false, List.length_cons, List.length_nil] at hln
     rw [hrs2]
     simp -failIfUnchanged (disch := first|omega|(simp<;>omega)|fail) only [go_sem,simprocAttr]
     try simp
     try omega
   ·have ek : k = l.length := by omega
    simp -failIfUnchanged (disch := first|omega|(simp<;>omega)|fail) only [go_sem,simprocAttr]
    refine ⟨i + 1, by dsimp only; omega, by dsimp only; omega, ?_⟩
    dsimp only
    rw [hks2 ek]
    simp -failIfUnchanged (disch := first|omega|(simp<;>omega)|fail) only [go_sem,simprocAttr]
    try simp
  ·have ei : i = l.length := by omega
   subst ei
   simp -failIfUnchanged (disch := first|omega|(simp<;>omega)|fail) only [go_sem,simprocAttr]
   try simp
 ·have hd : decide (¬ e = 0) = true := decide_eq_true h0
  simp -failIfUnchanged (disch := first|omega|(simp<;>omega)|fail) only [go_sem,simprocAttr, hd]
  simp [h0]
end Go.Proofs.YtggnmemkhookdaaGreatDoor.Fi

set_option linter.unusedSimpArgs false
set_option linter.unusedVariables false
set_option linter.unnecessarySimpa false
namespace Go.Proofs.YtggnmemkhookdaaGreatDoor.Qr
open Go Go.V Kn
structure Fa where
 frm : Int
 mny : Int
 too : Int
 low : Int
 hig : Int
 deriving Inhabited
structure Wd where
 f : List (List Int)
 deriving Inhabited
structure Qt where
 wells : Int
 wd : List Wd
 fa : List Fa
abbrev LL (l : List (List Int)) : AV := .sl 1 (l.map IS) .sh
abbrev WA (w : Wd) : AV := .agg [LL w.f]
abbrev WL (l : List Wd) : AV := .sl 1 (l.map WA) .sh
abbrev FA (f : Fa) : AV := .agg [.int f.frm, .int f.mny, .int f.too, .int f.low, .int f.hig]
abbrev FL (l : List Fa) : AV := .sl 5 (l.map FA) .sh
abbrev QC (t : Qt) : List AV := [.int t.wells, WL t.wd, FL t.fa]
abbrev QT (t : Qt) : AV := .agg (QC t)
theorem ag55 : aggOf Tryz.prog 55 = some true := by kernel_rfl
theorem sz55 : szOf Tryz.prog 55 = some 3 := by kernel_rfl
theorem ag94 : aggOf Tryz.prog 94 = some true := by kernel_rfl
theorem sz94 : szOf Tryz.prog 94 = some 1 := by kernel_rfl
theorem ag97 : aggOf Tryz.prog 97 = some true := by kernel_rfl
theorem sz97 : szOf Tryz.prog 97 = some 5 := by kernel_rfl
attribute [go_sem] ag55 sz55 ag94 sz94 ag97 sz97
theorem c110 (l : List Fa) (g : Nat) (caps : List AV) (p : Fa → Bool) (hp : ∀ x ∈ l, Ctr Tryz.prog g ([FA x] ++ caps) (.bool (p x))) (hl : l.length < 4294967296) :
  Ctr Tryz.prog 110 [FL l, .clo g [] caps] (.int (idxF p l)) := by
 refine ctr_of_wp hmix Tryz.func110 m110 rfl ?_
 unfold v110
 simp -failIfUnchanged (disch := first|omega|(simp<;>omega)|fail) only [go_sem,simprocAttr]
 refine wp_loop' Nat (fun i => ⟨[(0, FL l), (1, .clo g [] caps), (7, .int l.length), (8, .int i)], [], [], none⟩) (fun i => i ≤ l.length ∧ ∀ x ∈ l.take i, p x = false) (fun i => l.length - i) 0 (by simp) (by simp -failIfUnchanged (disch := first|omega|(simp<;>omega)|fail) only [go_sem,simprocAttr]; try rfl) ?_
 rintro i ⟨hi, hpre⟩
 simp -failIfUnchanged (disch := first|omega|(simp<;>omega)|fail) only [go_sem,simprocAttr]
 refine wcond_dec (fun h => ?_) (fun h => ?_)
 ·simp -failIfUnchanged (disch := first|omega|(simp<;>omega)|fail) only [go_sem,simprocAttr]
  have hlt : i < l.length := by omega
  refine wcall (hp _ (mem_getD hlt)) ?_
  simp -failIfUnchanged (disch := first|omega|(simp<;>omega)|fail) only [go_sem,simprocAttr]
  refine wcond_bool (fun hb => ?_) (fun hb => ?_)
  ·simp -failIfUnchanged (disch := first|omega|(simp<;>omega)|fail) only [go_sem,simprocAttr]
   rw [idxF_hit hlt hpre hb]
  ·simp -failIfUnchanged (disch := first|omega|(simp<;>omega)|fail) only [go_sem,simprocAttr]
   refine ⟨i + 1, ⟨by omega, take_succ_all hlt hpre hb⟩, by dsimp only; omega, ?_⟩
   simp -failIfUnchanged (disch := first|omega|(simp<;>omega)|fail) only [go_sem,simprocAttr]
   try simp
 ·simp -failIfUnchanged (disch := first|omega|(simp<;>omega)|fail) only [go_sem,simprocAttr]
  have e : i = l.length := by omega
  rw [idxF_miss]
  rw [e, List.take_length] at hpre
  exact hpre
theorem c103 (l : List Fa) (g : Nat) (caps : List AV) (p : Fa → Bool) (hp : ∀ x ∈ l, Ctr Tryz.prog g ([FA x] ++ caps) (.bool (p x))) (hl : l.length < 4294967296) :
  Ctr Tryz.prog 103 [FL l, .clo g [] caps] (.bool (l.any p)) := by
 refine ctr_of_wp hmix Tryz.func103 m103 rfl ?_
 unfold v103
 simp -failIfUnchanged (disch := first|omega|(simp<;>omega)|fail) only [go_sem,simprocAttr]
 refine wcall (c110 l g caps p hp hl) ?_
 simp -failIfUnchanged (disch := first|omega|(simp<;>omega)|fail) only [go_sem,simprocAttr]
 rw [idxF_geq]
theorem c86 (l : List Fa) (g : Nat) (caps : List AV) (p : Fa → Bool) (hp : ∀ x ∈ l, Ctr Tryz.prog g ([FA x] ++ caps) (.bool (p x))) (hl : l.length < 4294967296) :
  Ctr Tryz.prog 86 [FL l, .clo g [] caps] (.bool (!l.any p)) := by
 refine ctr_of_wp hmix Tryz.func86 m86 rfl ?_
 unfold v86
 simp -failIfUnchanged (disch := first|omega|(simp<;>omega)|fail) only [go_sem,simprocAttr]
 refine wcall (c103 l g caps p hp hl) ?_
 simp -failIfUnchanged (disch := first|omega|(simp<;>omega)|fail) only [go_sem,simprocAttr]
theorem c113 (l : List Wd) (g : Nat) (caps : List AV) (p : Wd → Bool) (hp : ∀ x ∈ l, Ctr Tryz.prog g ([WA x] ++ caps) (.bool (p x))) (hl : l.length < 4294967296) :
  Ctr Tryz.prog 113 [WL l, .clo g [] caps] (.int (idxF p l)) := by
 refine ctr_of_wp hmix Tryz.func113 m113 rfl ?_
 unfold v113
 simp -failIfUnchanged (disch := first|omega|(simp<;>omega)|fail) only [go_sem,simprocAttr]
 refine wp_loop' Nat (fun i => ⟨[(0, WL l), (1, .clo g [] caps), (7, .int l.length), (8, .int i)], [], [], none⟩) (fun i => i ≤ l.length ∧ ∀ x ∈ l.take i, p x = false) (fun i => l.length - i) 0 (by simp) (by simp -failIfUnchanged (disch := first|omega|(simp<;>omega)|fail) only [go_sem,simprocAttr]; try rfl) ?_
 rintro i ⟨hi, hpre⟩
 simp -failIfUnchanged (disch := first|omega|(simp<;>omega)|fail) only [go_sem,simprocAttr]
 refine wcond_dec (fun h => ?_) (fun h => ?_)
 ·simp -failIfUnchanged (disch := first|omega|(simp<;>omega)|fail) only [go_sem,simprocAttr]
  have hlt : i < l.length := by omega
  refine wcall (hp _ (mem_getD hlt)) ?_
  simp -failIfUnchanged (disch := first|omega|(simp<;>omega)|fail) only [go_sem,simprocAttr]
  refine wcond_bool (fun hb => ?_) (fun hb => ?_)
  ·simp -failIfUnchanged (disch := first|omega|(simp<;>omega)|fail) only [go_sem,simprocAttr]
   rw [idxF_hit hlt hpre hb]
  ·simp -failIfUnchanged (disch := first|omega|(simp<;>omega)|fail) only [go_sem,simprocAttr]
   refine ⟨i + 1, ⟨by omega, take_succ_all hlt hpre hb⟩, by dsimp only; omega, ?_⟩
   simp -failIfUnchanged (disch := first|omega|(simp<;>omega)|fail) only [go_sem,simprocAttr]
   try simp
 ·simp -failIfUnchanged (disch := first|omega|(simp<;>omega)|fail) only [go_sem,simprocAttr]
  have e : i = l.length := by omega
  rw [idxF_miss]
  rw [e, List.take_length] at hpre
  exact hpre
theorem c109 (l : List Wd) (g : Nat) (caps : List AV) (p : Wd → Bool) (hp : ∀ x ∈ l, Ctr Tryz.prog g ([WA x] ++ caps) (.bool (p x))) (hl : l.length < 4294967296) :
  Ctr Tryz.prog 109 [WL l, .clo g [] caps] (.bool (l.any p)) := by
 refine ctr_of_wp hmix Tryz.func109 m109 rfl ?_
 unfold v109
 simp -failIfUnchanged (disch := first|omega|(simp<;>omega)|fail) only [go_sem,simprocAttr]
 refine wcall (c113 l g caps p hp hl) ?_
 simp -failIfUnchanged (disch := first|omega|(simp<;>omega)|fail) only [go_sem,simprocAttr]
 rw [idxF_geq]
theorem c102 (l : List Wd) (g : Nat) (caps : List AV) (p : Wd → Bool) (hp : ∀ x ∈ l, Ctr Tryz.prog g ([WA x] ++ caps) (.bool (p x))) (hl : l.length < 4294967296) :
  Ctr Tryz.prog 102 [WL l, .clo g [] caps] (.bool (!l.any p)) := by
 refine ctr_of_wp hmix Tryz.func102 m102 rfl ?_
 unfold v102
 simp -failIfUnchanged (disch := first|omega|(simp<;>omega)|fail) only [go_sem,simprocAttr]
 refine wcall (c109 l g caps p hp hl) ?_
 simp -failIfUnchanged (disch := first|omega|(simp<;>omega)|fail) only [go_sem,simprocAttr]
theorem c112 (l : List (List Int)) (g : Nat) (caps : List AV) (p : (List Int) → Bool) (hp : ∀ x ∈ l, Ctr Tryz.prog g ([IS x] ++ caps) (.bool (p x))) (hl : l.length < 4294967296) :
  Ctr Tryz.prog 112 [LL l, .clo g [] caps] (.int (idxF p l)) := by
 refine ctr_of_wp hmix Tryz.func112 m112 rfl ?_
 unfold v112
 simp -failIfUnchanged (disch := first|omega|(simp<;>omega)|fail) only [go_sem,simprocAttr]
 refine wp_loop' Nat (fun i => ⟨[(0, LL l), (1, .clo g [] caps), (7, .int l.length), (8, .int i)], [], [], none⟩) (fun i => i ≤ l.length ∧ ∀ x ∈ l.take i, p x = false) (fun i => l.length - i) 0 (by simp) (by simp -failIfUnchanged (disch := first|omega|(simp<;>omega)|fail) only [go_sem,simprocAttr]; try rfl) ?_
 rintro i ⟨hi, hpre⟩
 simp -failIfUnchanged (disch := first|omega|(simp<;>omega)|fail) only [go_sem,simprocAttr]
 refine wcond_dec (fun h => ?_) (fun h => ?_)
 ·simp -failIfUnchanged (disch := first|omega|(simp<;>omega)|fail) only [go_sem,simprocAttr]
  have hlt : i < l.length := by omega
  refine wcall (hp _ (mem_getD hlt)) ?_
  simp -failIfUnchanged (disch := first|omega|(simp<;>omega)|fail) only [go_sem,simprocAttr]
  refine wcond_bool (fun hb => ?_) (fun hb => ?_)
  ·simp -failIfUnchanged (disch := first|omega|(simp<;>omega)|fail) only [go_sem,simprocAttr]
   rw [idxF_hit hlt hpre hb]
  ·simp -failIfUnchanged (disch := first|omega|(simp<;>omega)|fail) only [go_sem,simprocAttr]
   refine ⟨i + 1, ⟨by omega, take_succ_all hlt hpre hb⟩, by dsimp only; omega, ?_⟩
   simp -failIfUnchanged (disch := first|omega|(simp<;>omega)|fail) only [go_sem,simprocAttr]
   try simp
 ·simp -failIfUnchanged (disch := first|omega|(simp<;>omega)|fail) only [go_sem,simprocAttr]
  have e : i = l.length := by omega
  rw [idxF_miss]
  rw [e, List.take_length] at hpre
  exact hpre
theorem c108 (l : List (List Int)) (g : Nat) (caps : List AV) (p : (List Int) → Bool) (hp : ∀ x ∈ l, Ctr Tryz.prog g ([IS x] ++ caps) (.bool (p x))) (hl : l.length < 4294967296) :
  Ctr Tryz.prog 108 [LL l, .clo g [] caps] (.bool (l.any p)) := by
 refine ctr_of_wp hmix Tryz.func108 m108 rfl ?_
 unfold v108
 simp -failIfUnchanged (disch := first|omega|(simp<;>omega)|fail) only [go_sem,simprocAttr]
 refine wcall (c112 l g caps p hp hl) ?_
 simp -failIfUnchanged (disch := first|omega|(simp<;>omega)|fail) only [go_sem,simprocAttr]
 rw [idxF_geq]
theorem c100 (l : List (List Int)) (g : Nat) (caps : List AV) (p : (List Int) → Bool) (hp : ∀ x ∈ l, Ctr Tryz.prog g ([IS x] ++ caps) (.bool (p x))) (hl : l.length < 4294967296) :
  Ctr Tryz.prog 100 [LL l, .clo g [] caps] (.bool (!l.any p)) := by
 refine ctr_of_wp hmix Tryz.func100 m100 rfl ?_
 unfold v100
 simp -failIfUnchanged (disch := first|omega|(simp<;>omega)|fail) only [go_sem,simprocAttr]
 refine wcall (c108 l g caps p hp hl) ?_
 simp -failIfUnchanged (disch := first|omega|(simp<;>omega)|fail) only [go_sem,simprocAttr]
theorem c97 (l : List Int) (g : Nat) (caps : List AV) (p : Int → Bool) (hp : ∀ x ∈ l, Ctr Tryz.prog g ([.int x] ++ caps) (.bool (p x))) (hl : l.length < 4294967296) :
  Ctr Tryz.prog 97 [IS l, .clo g [] caps] (.bool (!l.any p)) := by
 refine ctr_of_wp hmix Tryz.func97 m97 rfl ?_
 unfold v97
 simp -failIfUnchanged (disch := first|omega|(simp<;>omega)|fail) only [go_sem,simprocAttr]
 refine wcall (c107 l g caps p hp hl) ?_
 simp -failIfUnchanged (disch := first|omega|(simp<;>omega)|fail) only [go_sem,simprocAttr]
theorem c71 (n lo hi : Int) : Ctr Tryz.prog 71 [.int n, .int lo, .int hi] (.bool (within n lo hi)) := by
 refine ctr_of_wp hmix Tryz.func71 m71 rfl ?_
 unfold v71
 simp -failIfUnchanged (disch := first|omega|(simp<;>omega)|fail) only [go_sem,simprocAttr]
 refine WGd_bool (fun h => ?_) (fun h => ?_)
 ·simp -failIfUnchanged (disch := first|omega|(simp<;>omega)|fail) only [go_sem,simprocAttr, h]
  simp only [decide_eq_true_eq] at h
  simp [within, h]
 ·simp -failIfUnchanged (disch := first|omega|(simp<;>omega)|fail) only [go_sem,simprocAttr, h]
  simp only [Bool.not_true, decide_eq_false_iff_not] at h
  simp [within, h]
theorem c45 (t : Qt) (n : Int) : Ctr Tryz.prog 45 [QT t, .int n] (.bool (within n 0 (w64 (t.wells - 1)))) := by
 refine ctr_of_wp hmix Tryz.func45 m45 rfl ?_
 unfold v45
 simp -failIfUnchanged (disch := first|omega|(simp<;>omega)|fail) only [go_sem,simprocAttr]
 refine wcall (c71 _ _ _) ?_
 simp -failIfUnchanged (disch := first|omega|(simp<;>omega)|fail) only [go_sem,simprocAttr]
 try simp
def tG : Qt := ⟨2, [⟨[[3, 1], [0, 2]]⟩, ⟨[[3, 2], [1, 2]]⟩, ⟨[[3, 1], [2, 2]]⟩], []⟩
def fE : Fa := ⟨0, 2, 1, 2, 3⟩
def tE : Qt := ⟨2, [⟨[[3, 1], [0, 2]]⟩, ⟨[[3, 2], [1, 2]]⟩, ⟨[[3, 1], [2, 2]]⟩], [fE]⟩
end Go.Proofs.YtggnmemkhookdaaGreatDoor.Qr

set_option linter.unusedSimpArgs false
set_option linter.unusedVariables false
set_option linter.unnecessarySimpa false
namespace Go.Proofs.YtggnmemkhookdaaGreatDoor.Qr
open Go Go.V Kn
theorem c98 (n : Int) : Ctr Tryz.prog 98 [.int n] (.bool (!within n 0 9)) := by
 refine ctr_of_wp hmix Tryz.func98 m98 rfl ?_
 unfold v98
 simp -failIfUnchanged (disch := first|omega|(simp<;>omega)|fail) only [go_sem,simprocAttr]
 refine wcall (c71 _ _ _) ?_
 simp -failIfUnchanged (disch := first|omega|(simp<;>omega)|fail) only [go_sem,simprocAttr]
abbrev RT (t : Qt) : AV := .ref 3 [QT t] 0 0
def rowB (t : Qt) (l : List Int) : Bool := !decide ((l.length : Int) = t.wells) || l.any fun n => !within n 0 9
theorem c96 (t : Qt) (l : List Int) (hl : l.length < 4294967296) : Ctr Tryz.prog 96 [IS l, RT t] (.bool (rowB t l)) := by
 refine ctr_of_wp hmix Tryz.func96 m96 rfl ?_
 unfold v96 rowB
 simp -failIfUnchanged (disch := first|omega|(simp<;>omega)|fail) only [go_sem,simprocAttr]
 by_cases h : (l.length : Int) = t.wells
 ·have e : decide ((l.length : Int) = t.wells) = true := decide_eq_true h
  simp -failIfUnchanged (disch := first|omega|(simp<;>omega)|fail) only [go_sem,simprocAttr, h, e]
  refine wcall (c97 l 98 [] (fun n => !within n 0 9) (fun x _ => c98 x) hl) ?_
  simp -failIfUnchanged (disch := first|omega|(simp<;>omega)|fail) only [go_sem,simprocAttr]
  try simp
 ·have e : decide ((l.length : Int) = t.wells) = false := decide_eq_false h
  simp -failIfUnchanged (disch := first|omega|(simp<;>omega)|fail) only [go_sem,simprocAttr, h, e]
  try simp
abbrev RR (t : Qt) : AV := .ref 1 [.agg [.clo 96 [] [RT t]]] 0 0
def wdB (t : Qt) (w : Wd) : Bool := !decide ((w.f.length : Int) = t.wells) || w.f.any (rowB t)
theorem c99 (t : Qt) (w : Wd) (hl : w.f.length < 4294967296) (hr : ∀ x ∈ w.f, x.length < 4294967296) : Ctr Tryz.prog 99 [WA w, RT t, RR t] (.bool (wdB t w)) := by
 refine ctr_of_wp hmix Tryz.func99 m99 rfl ?_
 unfold v99 wdB
 simp -failIfUnchanged (disch := first|omega|(simp<;>omega)|fail) only [go_sem,simprocAttr]
 by_cases h : (w.f.length : Int) = t.wells
 ·have e : decide ((w.f.length : Int) = t.wells) = true := decide_eq_true h
  simp -failIfUnchanged (disch := first|omega|(simp<;>omega)|fail) only [go_sem,simprocAttr, h, e]
  refine wcall (c100 w.f 96 [RT t] (rowB t) (fun x hx => c96 t x (hr x hx)) hl) ?_
  simp -failIfUnchanged (disch := first|omega|(simp<;>omega)|fail) only [go_sem,simprocAttr]
  try simp
 ·have e : decide ((w.f.length : Int) = t.wells) = false := decide_eq_false h
  simp -failIfUnchanged (disch := first|omega|(simp<;>omega)|fail) only [go_sem,simprocAttr, h, e]
  try simp
def faB (t : Qt) (f : Fa) : Bool := !within f.frm 0 (w64 (t.wells - 1)) || (!within f.too 0 (w64 (t.wells - 1)) || (!within f.mny 1 9 || (!within f.low 0 f.hig || decide (99 < f.hig))))
theorem c101 (t : Qt) (f : Fa) : Ctr Tryz.prog 101 [FA f, RT t] (.bool (faB t f)) := by
 refine ctr_of_wp hmix Tryz.func101 m101 rfl ?_
 unfold v101 faB
 simp -failIfUnchanged (disch := first|omega|(simp<;>omega)|fail) only [go_sem,simprocAttr]
 refine wcall (c45 t _) ?_
 cases h1 : within f.frm 0 (w64 (t.wells - 1)) with
 | false => simp -failIfUnchanged (disch := first|omega|(simp<;>omega)|fail) only [go_sem,simprocAttr]; try simp
 | true =>
  simp -failIfUnchanged (disch := first|omega|(simp<;>omega)|fail) only [go_sem,simprocAttr]
  refine wcall (c45 t _) ?_
  cases h2 : within f.too 0 (w64 (t.wells - 1)) with
  | false => simp -failIfUnchanged (disch := first|omega|(simp<;>omega)|fail) only [go_sem,simprocAttr]; try simp
  | true =>
   simp -failIfUnchanged (disch := first|omega|(simp<;>omega)|fail) only [go_sem,simprocAttr]
   refine wcall (c71 _ _ _) ?_
   cases h3 : within f.mny 1 9 with
   | false => simp -failIfUnchanged (disch := first|omega|(simp<;>omega)|fail) only [go_sem,simprocAttr]; try simp
   | true =>
    simp -failIfUnchanged (disch := first|omega|(simp<;>omega)|fail) only [go_sem,simprocAttr]
    refine wcall (c71 _ _ _) ?_
    cases h4 : within f.low 0 f.hig with
    | false => simp -failIfUnchanged (disch := first|omega|(simp<;>omega)|fail) only [go_sem,simprocAttr]; try simp
    | true =>
     simp -failIfUnchanged (disch := first|omega|(simp<;>omega)|fail) only [go_sem,simprocAttr]
     try simp
structure SmQ (t : Qt) : Prop where
 w : t.wd.length ≤ 6
 f : t.fa.length ≤ 6
 r : ∀ x ∈ t.wd, x.f.length < 4294967296 ∧ ∀ y ∈ x.f, y.length < 4294967296
theorem c85 (t : Qt) (hs : SmQ t) (h1 : within t.wells 0 4 = true) (h2 : t.wd.any (wdB t) = false) (h3 : t.fa.any (faB t) = false) : Ctr Tryz.prog 85 [QT t] (.int 0) := by
 refine ctr_of_wp hmix Tryz.func85 m85 rfl ?_
 unfold v85
 have hw := hs.w
 have hf := hs.f
 have e1 : decide ((6 : Int) < t.wd.length) = false := decide_eq_false (by omega)
 have e2 : decide ((6 : Int) < t.fa.length) = false := decide_eq_false (by omega)
 simp -failIfUnchanged (disch := first|omega|(simp<;>omega)|fail) only [go_sem,simprocAttr]
 refine wcall (c71 _ _ _) ?_
 rw [h1]
 simp -failIfUnchanged (disch := first|omega|(simp<;>omega)|fail) only [go_sem,simprocAttr, e1]
 refine wcall (c102 t.wd 99 [RT t, RR t] (wdB t) (fun x hx => c99 t x (hs.r x hx).1 (hs.r x hx).2) (by omega)) ?_
 rw [h2]
 simp -failIfUnchanged (disch := first|omega|(simp<;>omega)|fail) only [go_sem,simprocAttr, e2]
 refine wcall (c86 t.fa 101 [RT t] (faB t) (fun x hx => c101 t x) (by omega)) ?_
 rw [h3]
 simp -failIfUnchanged (disch := first|omega|(simp<;>omega)|fail) only [go_sem,simprocAttr]
 try simp
def agrB (w : Wd) (f : Fa) : Bool := within (w64 (((w.f[f.frm.toNat]?.getD default)[f.too.toNat]?.getD default) * f.mny)) f.low f.hig
theorem c88 (w : Wd) (f : Fa) (h1 : 0 ≤ f.frm ∧ f.frm < w.f.length) (h2 : 0 ≤ f.too ∧ f.too < (w.f[f.frm.toNat]?.getD default).length) : Ctr Tryz.prog 88 [WA w, FA f] (.bool (agrB w f)) := by
 refine ctr_of_wp hmix Tryz.func88 m88 rfl ?_
 unfold v88 agrB
 obtain ⟨a, b, c, lo, hi⟩ := f
 dsimp only at h1 h2 ⊢
 obtain ⟨n, rfl⟩ : ∃ n : Nat, a = n := ⟨a.toNat, by omega⟩
 obtain ⟨m, rfl⟩ : ∃ m : Nat, c = m := ⟨c.toNat, by omega⟩
 simp only [Int.toNat_natCast] at h2 ⊢
 obtain ⟨R, hR⟩ : ∃ R, w.f[n]?.getD default = R := ⟨_, rfl⟩
 rw [hR] at h2 ⊢
 simp -failIfUnchanged (disch := first|omega|(simp<;>omega)|fail) only [go_sem,simprocAttr, hR]
 refine wcall (c71 _ _ _) ?_
 simp -failIfUnchanged (disch := first|omega|(simp<;>omega)|fail) only [go_sem,simprocAttr]
abbrev RW (w : Wd) : AV := .ref 1 [WA w] 0 0
theorem c87 (w : Wd) (f : Fa) (h1 : 0 ≤ f.frm ∧ f.frm < w.f.length) (h2 : 0 ≤ f.too ∧ f.too < (w.f[f.frm.toNat]?.getD default).length) : Ctr Tryz.prog 87 [FA f, RW w] (.bool (!agrB w f)) := by
 refine ctr_of_wp hmix Tryz.func87 m87 rfl ?_
 unfold v87
 simp -failIfUnchanged (disch := first|omega|(simp<;>omega)|fail) only [go_sem,simprocAttr]
 refine wcall (c88 w f h1 h2) ?_
 simp -failIfUnchanged (disch := first|omega|(simp<;>omega)|fail) only [go_sem,simprocAttr]
end Go.Proofs.YtggnmemkhookdaaGreatDoor.Qr

set_option linter.unusedSimpArgs false
set_option linter.unusedVariables false
set_option linter.unnecessarySimpa false
namespace Go.Proofs.YtggnmemkhookdaaGreatDoor.Qr
open Go Go.V Kn
def cwC (w : List (List Int)) : Nat → AV
 | 0 => .sl 1 [] .full
 | i + 1 => .sl 1 ((w.take (i + 1)).map IS) (.own 22)
def cwT : Nat → List (Nat × Nat)
 | 0 => []
 | i + 1 => [(22, i + 1)]
theorem take_snoc {α : Type} [Inhabited α] {l : List α} {i : Nat} (h : i < l.length) : l.take (i + 1) = l.take i ++ [l[i]?.getD default] := by
 rw [List.take_add_one, List.getElem?_eq_getElem h]
 rfl
theorem c84 (w : Wd) (hl : w.f.length ≤ 1000) (hr : ∀ x ∈ w.f, x.length ≤ 1000) : Ctr Tryz.prog 84 [WA w] (WA w) := by
 refine ctr_of_wp hmix Tryz.func84 m84 rfl ?_
 unfold v84
 simp -failIfUnchanged (disch := first|omega|(simp<;>omega)|fail) only [go_sem,simprocAttr]
 refine wp_loop' Nat (fun i => ⟨[(1, .ptr 1 0), (2, .ptr 2 0), (3, .ptr 3 0), (4, .int i)], [(3, ⟨[cwC w.f i], false⟩), (1, ⟨[LL w.f], false⟩), (2, ⟨[.sl 1 [] .full], false⟩)], cwT i, none⟩) (fun i => i ≤ w.f.length) (fun i => w.f.length - i) 0 (by simp) (by unfold cwC cwT; simp -failIfUnchanged (disch := first|omega|(simp<;>omega)|fail) only [go_sem,simprocAttr]; try simp) ?_
 intro i hi
 have hi : i ≤ w.f.length := hi
 simp -failIfUnchanged (disch := first|omega|(simp<;>omega)|fail) only [go_sem,simprocAttr]
 refine wcond_dec (fun hc => ?_) (fun hc => ?_)
 ·have hlt : i < w.f.length := by omega
  have hrw := hr _ (mem_getD hlt)
  have hsu := take_snoc hlt
  obtain ⟨R, hR⟩ : ∃ R, w.f[i]?.getD default = R := ⟨_, rfl⟩
  rw [hR] at hrw hsu
  rcases i with _ | i
  ·simp only [cwC, cwT]
   simp -failIfUnchanged (disch := first|omega|(simp<;>omega)|fail) only [go_sem,simprocAttr, hR]
   refine ⟨1, by dsimp only; omega, by dsimp only; omega, ?_⟩
   simp only [cwC, cwT]
   rw [hsu]
   simp -failIfUnchanged (disch := first|omega|(simp<;>omega)|fail) only [go_sem,simprocAttr]
   try simp
  ·simp only [cwC, cwT]
   have htk : (w.f.take (i + 1)).length = i + 1 := by rw [List.length_take]; omega
   simp -failIfUnchanged (disch := first|omega|(simp<;>omega)|fail) only [go_sem,simprocAttr, hR, htk]
   refine ⟨i + 2, by dsimp only; omega, by dsimp only; omega, ?_⟩
   simp only [cwC, cwT]
   rw [hsu]
   simp -failIfUnchanged (disch := first|omega|(simp<;>omega)|fail) only [go_sem,simprocAttr, htk]
   try simp
   try omega
 ·obtain rfl : i = w.f.length := by omega
  have hce : ∀ hp, strip hp (cwC w.f w.f.length) = LL w.f := by
   intro hp
   rcases h : w.f.length with _ | n
   ·have : w.f = [] := List.eq_nil_of_length_eq_zero h
    rw [this]
    rfl
   ·simp only [cwC, strip, strip1]
    rw [List.take_of_length_le (by omega)]
  have hcb : (cwC w.f w.f.length).bid = [] := by
   cases w.f.length <;> rfl
  simp -failIfUnchanged (disch := first|omega|(simp<;>omega)|fail) only [go_sem,simprocAttr, hce, hcb]
def cpC (w : List Wd) : Nat → AV
 | 0 => .sl 1 [] .full
 | i + 1 => .sl 1 ((w.take (i + 1)).map WA) (.own 4028)
def cpT : Nat → List (Nat × Nat)
 | 0 => []
 | i + 1 => [(4028, i + 1)]
theorem c43 (n : Int) (wd : List Wd) (hl : wd.length ≤ 100) (hw : ∀ x ∈ wd, x.f.length ≤ 1000 ∧ ∀ y ∈ x.f, y.length ≤ 1000) (f : Fa) : Ctr Tryz.prog 43 [QT ⟨n, wd, []⟩, FA f] (QT ⟨n, wd, [f]⟩) := by
 refine ctr_of_wp hmix Tryz.func43 m43i rfl ?_
 unfold v43i
 simp -failIfUnchanged (disch := first|omega|(simp<;>omega)|fail) only [go_sem,simprocAttr]
 refine wcall_in hmix Tryz.func69 m69i rfl ?_
 unfold v69i
 simp -failIfUnchanged (disch := first|omega|(simp<;>omega)|fail) only [go_sem,simprocAttr]
 refine wp_loopX Nat (fun i => ⟨[(1, .ptr 4001 0), (2, .ptr 4002 0), (3, .ptr 4003 0), (4, .int (i : Nat))],
  [(4003, ⟨[.int n, cpC wd i, .gsl 1 0 0 5 0 true], false⟩), (K 1 0 0, ⟨[], false⟩), (4002, ⟨[.int 0, .sl 1 [] .full, .sl 5 [] .full], false⟩), (4001, ⟨[.int n, WL wd, .sl 5 [] .sh], false⟩), (4, ⟨[.int 0, .sl 1 [] .full, .sl 5 [] .full], false⟩), (3, ⟨[.int f.frm, .int f.mny, .int f.too, .int f.low, .int f.hig], false⟩), (2, ⟨QC ⟨n, wd, []⟩, false⟩)], cpT i, none⟩) (fun i => i ≤ wd.length) (fun i => wd.length - i) 0 (by simp) (by unfold cpC cpT; simp -failIfUnchanged (disch := first|omega|(simp<;>omega)|fail) only [go_sem,simprocAttr]; try simp) (fun i => by simp -failIfUnchanged (disch := first|omega|(simp<;>omega)|fail) only [go_sem,simprocAttr]; try simp) ?_
 intro i hi
 have hi : i ≤ wd.length := hi
 simp -failIfUnchanged (disch := first|omega|(simp<;>omega)|fail) only [go_sem,simprocAttr]
 refine wcond_dec (fun hc => ?_) (fun hc => ?_)
 ·have hlt : i < wd.length := by omega
  obtain ⟨h1, h2⟩ := hw _ (mem_getD hlt)
  have hsu := take_snoc hlt
  obtain ⟨R, hR⟩ : ∃ R, wd[i]?.getD default = R := ⟨_, rfl⟩
  rw [hR] at h1 h2 hsu
  rcases i with _ | i
  ·simp only [cpC, cpT]
   simp -failIfUnchanged (disch := first|omega|(simp<;>omega)|fail) only [go_sem,simprocAttr, hR]
   refine wcall (c84 R h1 h2) ?_
   simp -failIfUnchanged (disch := first|omega|(simp<;>omega)|fail) only [go_sem,simprocAttr]
   refine lpx_norm ⟨1, by omega, by omega, ?_⟩
   simp only [cpC, cpT]
   rw [hsu]
   simp -failIfUnchanged (disch := first|omega|(simp<;>omega)|fail) only [go_sem,simprocAttr]
   try simp
  ·simp only [cpC, cpT]
   have htk : (wd.take (i + 1)).length = i + 1 := by rw [List.length_take]; omega
   simp -failIfUnchanged (disch := first|omega|(simp<;>omega)|fail) only [go_sem,simprocAttr, hR, htk]
   refine wcall (c84 R h1 h2) ?_
   simp -failIfUnchanged (disch := first|omega|(simp<;>omega)|fail) only [go_sem,simprocAttr, htk]
   refine lpx_norm ⟨i + 2, by omega, by omega, ?_⟩
   simp only [cpC, cpT]
   rw [hsu]
   simp -failIfUnchanged (disch := first|omega|(simp<;>omega)|fail) only [go_sem,simprocAttr, htk]
   try simp
   try omega
 ·obtain rfl : i = wd.length := by omega
  simp -failIfUnchanged (disch := first|omega|(simp<;>omega)|fail) only [go_sem,simprocAttr]
  have hX : ∃ m, cpC wd wd.length = .sl 1 (wd.map WA) m ∧ (m = .full ∨ m = .own 4028) := by
   rcases h : wd.length with _ | n
   ·have : wd = [] := List.eq_nil_of_length_eq_zero h
    exact ⟨.full, by rw [this]; rfl, .inl rfl⟩
   ·refine ⟨.own 4028, ?_, .inr rfl⟩
    simp only [cpC]
    rw [List.take_of_length_le (by omega)]
  obtain ⟨m, hm, hm2⟩ := hX
  rw [hm]
  generalize cpT wd.length = T
  rcases hm2 with rfl | rfl
  all_goals
   refine wopsN [K 1 0 1] ?_
   simp -failIfUnchanged (disch := first|omega|(simp<;>omega)|fail) only [go_sem,simprocAttr, Nat.le_refl]
   rfl
theorem c18 : Ctr Tryz.prog 18 [] (.tup [QT tE, QT tG]) := by
 refine ctr_of_wp hmix Tryz.func18 m18 rfl ?_
 unfold v18
 simp -failIfUnchanged (disch := first|omega|(simp<;>omega)|fail) only [go_sem,simprocAttr]
 refine wcall (c43 tG.wells tG.wd (by decide) (by intro x hx; simp only [tG, List.mem_cons, List.not_mem_nil, or_false] at hx; rcases hx with rfl | rfl | rfl <;> exact ⟨by decide, by decide⟩) fE) ?_
 simp -failIfUnchanged (disch := first|omega|(simp<;>omega)|fail) only [go_sem,simprocAttr]
 try rfl
end Go.Proofs.YtggnmemkhookdaaGreatDoor.Qr

set_option linter.unusedSimpArgs false
set_option linter.unusedVariables false
set_option linter.unnecessarySimpa false
namespace Go.Proofs.YtggnmemkhookdaaGreatDoor.Qr
open Go Go.V Kn Go.RowKit
set_option maxRecDepth 100000 in
theorem k105_5 (w : World) (h : w.cell? ⟨1, 0, none⟩ = some (.int .u8 0)) : Calls Tryz.prog 105 #[.int .u64 5] w fun e w' => e = .returned (.int .i64 0) ∧ w' = w := by
 have hh : w.cell? ⟨1, (IntKind.u64.wrap (bits BinOp.and IntKind.u64 5 (IntKind.u64.wrap (-5)) * 285870213051353865) / 288230376151711744).toNat, none⟩ = some (.int .u8 0) := h
 go_enter Tryz.func105, Tryz.ntmps105
 go_wp2
 go_ret
 exact ⟨rfl, rfl⟩
set_option maxRecDepth 100000 in
theorem k105_4 (w : World) (h : w.cell? ⟨1, 3, none⟩ = some (.int .u8 2)) : Calls Tryz.prog 105 #[.int .u64 4] w fun e w' => e = .returned (.int .i64 2) ∧ w' = w := by
 have hh : w.cell? ⟨1, (IntKind.u64.wrap (bits BinOp.and IntKind.u64 4 (IntKind.u64.wrap (-4)) * 285870213051353865) / 288230376151711744).toNat, none⟩ = some (.int .u8 2) := h
 go_enter Tryz.func105, Tryz.ntmps105
 go_wp2
 go_ret
 exact ⟨rfl, rfl⟩
set_option maxRecDepth 100000 in
theorem k89_5 (w : World) (h : w.cell? ⟨1, 0, none⟩ = some (.int .u8 0)) : Calls Tryz.prog 89 #[.int .u64 5] w fun e w' => e = .returned (.int .i64 0) ∧ w' = w := by
 go_enter Tryz.func89, Tryz.ntmps89
 go_wp2_with fail
 go_call (k105_5 w h) as e w' ⟨he, hb⟩
 subst he
 subst hb
 go_wp2
 go_ret
 exact ⟨rfl, rfl⟩
set_option maxRecDepth 100000 in
theorem k89_4 (w : World) (h : w.cell? ⟨1, 3, none⟩ = some (.int .u8 2)) : Calls Tryz.prog 89 #[.int .u64 4] w fun e w' => e = .returned (.int .i64 2) ∧ w' = w := by
 go_enter Tryz.func89, Tryz.ntmps89
 go_wp2_with fail
 go_call (k105_4 w h) as e w' ⟨he, hb⟩
 subst he
 subst hb
 go_wp2
 go_ret
 exact ⟨rfl, rfl⟩
theorem c89_of {k : Nat} {r : Int} {c : Nat} {z : Int} (hk : (BitVec.ofNat 64 k).toNat = k) (hg : (1, c, IntKind.u8, z) ∈ GL) (h : ∀ w : World, w.cell? ⟨1, c, none⟩ = some (.int .u8 z) → Calls Tryz.prog 89 #[.int .u64 k] w fun e w' => e = .returned (.int .i64 r) ∧ w' = w) : Ctr Tryz.prog 89 [.un (BitVec.ofNat 64 k)] (.int r) := by
 refine ⟨by kernel_rfl, fun C w vs hC hr => ?_⟩
 obtain ⟨h1, h2⟩ := hr
 have h3 := h2 0 _ rfl
 obtain ⟨v, rfl⟩ : ∃ v, vs = #[v] := by
  obtain ⟨l⟩ := vs
  match l, h1 with
  | [v], _ => exact ⟨v, rfl⟩
 have h4 : v = .int .u64 k := by
  have h5 : Rep0 C w v (.un (BitVec.ofNat 64 k)) := h3
  generalize hb : BitVec.ofNat 64 k = b at h5 hk
  cases h5
  rw [hk]
 subst h4
 refine (h w (hC.2 _ hg).2).mono fun e w' he => ?_
 obtain ⟨rfl, rfl⟩ := he
 exact ⟨_, C, rfl, .refl _ _, hC.1, fun _ _ x => x, fun _ _ x => .inl x, .int _⟩
theorem c89_5 : Ctr Tryz.prog 89 [.un 5] (.int 0) := c89_of (k := 5) (by decide) (by decide) k89_5
theorem c89_4 : Ctr Tryz.prog 89 [.un 4] (.int 2) := c89_of (k := 4) (by decide) (by decide) k89_4
theorem c72 : Ctr Tryz.prog 72 [.un 5] (IS [0, 2]) := by
 refine ctr_of_wp hmix Tryz.func72 m72 rfl ?_
 unfold v72
 simp -failIfUnchanged (disch := first|omega|(simp<;>omega)|fail) only [go_sem,simprocAttr]
 refine wp_loop' Nat (fun i => ⟨[(0, .un (match i with | 0 => 5 | 1 => 4 | _ => 0)), (3, .sl 1 ((([0, 2] : List Int).take i).map .int) (.own 3))], [], [(3, i)], none⟩) (fun i => i ≤ 2) (fun i => 2 - i) 0 (by simp) (by simp -failIfUnchanged (disch := first|omega|(simp<;>omega)|fail) only [go_sem,simprocAttr]; try simp) ?_
 intro i hi
 have h9 : i = 0 ∨ i = 1 ∨ i = 2 := by have : i ≤ 2 := hi; omega
 rcases h9 with rfl | rfl | rfl
 ·simp -failIfUnchanged (disch := first|omega|(simp<;>omega)|fail) only [go_sem,simprocAttr]
  refine wcall c89_5 ?_
  simp -failIfUnchanged (disch := first|omega|(simp<;>omega)|fail) only [go_sem,simprocAttr]
  refine ⟨1, by decide, by decide, ?_⟩
  simp -failIfUnchanged (disch := first|omega|(simp<;>omega)|fail) only [go_sem,simprocAttr]
  try simp
 ·simp -failIfUnchanged (disch := first|omega|(simp<;>omega)|fail) only [go_sem,simprocAttr]
  refine wcall c89_4 ?_
  simp -failIfUnchanged (disch := first|omega|(simp<;>omega)|fail) only [go_sem,simprocAttr]
  refine ⟨2, by decide, by decide, ?_⟩
  simp -failIfUnchanged (disch := first|omega|(simp<;>omega)|fail) only [go_sem,simprocAttr]
  try simp
 ·simp -failIfUnchanged (disch := first|omega|(simp<;>omega)|fail) only [go_sem,simprocAttr]
  try rfl
end Go.Proofs.YtggnmemkhookdaaGreatDoor.Qr

set_option linter.unusedSimpArgs false
set_option linter.unusedVariables false
set_option linter.unnecessarySimpa false
namespace Go.Proofs.YtggnmemkhookdaaGreatDoor.Qr
open Go Go.V Kn
theorem ag128 : aggOf Tryz.prog 128 = some true := by kernel_rfl
theorem sz128 : szOf Tryz.prog 128 = some 5 := by kernel_rfl
attribute [go_sem] ag128 sz128
abbrev crt (u : BitVec 64) (l : Nat) : List AV := [.int tE.wells, WL tE.wd, FL tE.fa, .un u, .mpr l]
abbrev CLB : AV := .clo 47 [] [.ref 1 [.agg [.int 1]] 0 0, .ref 1 [.agg [.int 0]] 0 0]
theorem c47 (w : Wd) (f t : Nat) (h1 : f < w.f.length) (h2 : t < (w.f[f]?.getD default).length) : Ctr Tryz.prog 47 [WA w, .ref 1 [.agg [.int f]] 0 0, .ref 1 [.agg [.int t]] 0 0] (.int ((w.f[f]?.getD default)[t]?.getD default)) := by
 refine ctr_of_wp hmix Tryz.func47 m47 rfl ?_
 unfold v47
 obtain ⟨R, hR⟩ : ∃ R, w.f[f]?.getD default = R := ⟨_, rfl⟩
 rw [hR] at h2 ⊢
 simp -failIfUnchanged (disch := first|omega|(simp<;>omega)|fail) only [go_sem,simprocAttr, hR]
 try simp
theorem c46 (l : Nat) : Ctr Tryz.prog 46 [.ref 5 [.agg (crt 5 l)] 0 0, CLB] (SP ⟨0, 2⟩) := by
 refine ctr_of_wp hmix Tryz.func46 m46 rfl ?_
 unfold v46 crt
 have k72 := c72
 obtain ⟨D, hD⟩ : ∃ D : List Int, [0, 2] = D := ⟨_, rfl⟩
 have d0 : D[0]?.getD default = 0 := by rw [← hD]; rfl
 have d1 : D[1]?.getD default = 2 := by rw [← hD]; rfl
 have dl : D.length = 2 := by rw [← hD]; rfl
 rw [hD] at k72
 have hW0 : tE.wd[0]?.getD default = ⟨[[3, 1], [0, 2]]⟩ := rfl
 have hW2 : tE.wd[2]?.getD default = ⟨[[3, 1], [2, 2]]⟩ := rfl
 have hWl : tE.wd.length = 3 := rfl
 have q0 : Ctr Tryz.prog 47 [WA (tE.wd[0]?.getD default), .ref 1 [.agg [.int 1]] 0 0, .ref 1 [.agg [.int 0]] 0 0] (.int 0) := c47 (tE.wd[0]?.getD default) 1 0 (by rw [hW0]; decide) (by rw [hW0]; decide)
 have q2 : Ctr Tryz.prog 47 [WA (tE.wd[2]?.getD default), .ref 1 [.agg [.int 1]] 0 0, .ref 1 [.agg [.int 0]] 0 0] (.int 2) := c47 (tE.wd[2]?.getD default) 1 0 (by rw [hW2]; decide) (by rw [hW2]; decide)
 obtain ⟨W, hW⟩ : ∃ W, tE.wd = W := ⟨_, rfl⟩
 rw [hW] at hWl q0 q2 ⊢
 clear hW0 hW2
 obtain ⟨A, hA⟩ : ∃ A, W[0]?.getD default = A := ⟨_, rfl⟩
 obtain ⟨B, hB⟩ : ∃ B, W[2]?.getD default = B := ⟨_, rfl⟩
 rw [hA] at q0
 rw [hB] at q2
 simp -failIfUnchanged (disch := first|omega|(simp<;>omega)|fail) only [go_sem,simprocAttr]
 refine wcall k72 ?_
 simp -failIfUnchanged (disch := first|omega|(simp<;>omega)|fail) only [go_sem,simprocAttr]
 refine wp_loop' Nat (fun i => ⟨[(0, .ref 5 [.agg [.int tE.wells, WL W, FL tE.fa, .un 5, .mpr l]] 0 0), (1, CLB), (4, .ptr 4 0), (5, .ptr 5 0), (13, IS D), (14, .int 2), (15, .int i)], [(5, ⟨[.int 0, .int (if i = 2 then 2 else 0)], false⟩), (4, ⟨[.int 0, .int 0], false⟩)], [], none⟩) (fun i => i ≤ 2) (fun i => 2 - i) 0 (by simp) (by simp -failIfUnchanged (disch := first|omega|(simp<;>omega)|fail) only [go_sem,simprocAttr, dl]; try simp) ?_
 intro i hi
 have h9 : i = 0 ∨ i = 1 ∨ i = 2 := by have : i ≤ 2 := hi; omega
 rcases h9 with rfl | rfl | rfl
 ·simp -failIfUnchanged (disch := first|omega|(simp<;>omega)|fail) only [go_sem,simprocAttr, d0, hA]
  refine wcall q0 ?_
  simp -failIfUnchanged (disch := first|omega|(simp<;>omega)|fail) only [go_sem,simprocAttr]
  refine ⟨1, by decide, by decide, ?_⟩
  simp -failIfUnchanged (disch := first|omega|(simp<;>omega)|fail) only [go_sem,simprocAttr]
  try simp
 ·simp -failIfUnchanged (disch := first|omega|(simp<;>omega)|fail) only [go_sem,simprocAttr, d1, hB]
  refine wcall q2 ?_
  simp -failIfUnchanged (disch := first|omega|(simp<;>omega)|fail) only [go_sem,simprocAttr]
  refine ⟨2, by decide, by decide, ?_⟩
  simp -failIfUnchanged (disch := first|omega|(simp<;>omega)|fail) only [go_sem,simprocAttr]
  simp
  decide
 ·simp -failIfUnchanged (disch := first|omega|(simp<;>omega)|fail) only [go_sem,simprocAttr]
  try rfl
end Go.Proofs.YtggnmemkhookdaaGreatDoor.Qr

set_option linter.unusedSimpArgs false
set_option linter.unusedVariables false
set_option linter.unnecessarySimpa false
namespace Go.Proofs.YtggnmemkhookdaaGreatDoor.Qr
open Go Go.V Kn
theorem smE : SmQ tE := ⟨by decide, by decide, fun x hx => by
 simp only [tE, List.mem_cons, List.not_mem_nil, or_false] at hx
 rcases hx with rfl | rfl | rfl <;> exact ⟨by decide, by decide⟩⟩
theorem c85E : Ctr Tryz.prog 85 [QT tE] (.int 0) := c85 tE smE (by kernel_rfl) (by kernel_rfl) (by kernel_rfl)
theorem c45E1 : Ctr Tryz.prog 45 [QT tE, .int 1] (.bool true) := by
 have := c45 tE 1
 rwa [show within 1 0 (w64 (tE.wells - 1)) = true by kernel_rfl] at this
theorem c45E0 : Ctr Tryz.prog 45 [QT tE, .int 0] (.bool true) := by
 have := c45 tE 0
 rwa [show within 0 0 (w64 (tE.wells - 1)) = true by kernel_rfl] at this
theorem c86E (w : Wd) (h1 : 0 < w.f.length) (h2 : 1 < (w.f[0]?.getD default).length) : Ctr Tryz.prog 86 [FL tE.fa, .clo 87 [] [RW w]] (.bool (agrB w fE)) := by
 have := c86 tE.fa 87 [RW w] (fun f => !agrB w f) (fun x hx => by
  simp only [tE, List.mem_cons, List.not_mem_nil, or_false] at hx
  subst hx
  exact c87 w fE ⟨by decide, Int.ofNat_lt.2 h1⟩ ⟨by decide, Int.ofNat_lt.2 h2⟩) (by decide)
 have e : (!tE.fa.any fun f => !agrB w f) = agrB w fE := by simp [tE]
 rwa [e] at this
theorem wop_n {P : Env} {dr : Bool} {d : Option Nat} {op : VOp} {next : AS → Prop} {fr : FrL} {hp : HpL} {tk : TkL} {pd : Option Ex} : WOp P dr ⟨d, op, none⟩ next ⟨fr, hp, tk, pd⟩ = WD P dr d op next ⟨fr, hp, tk, pd⟩ := rfl
attribute [go_sem] wop_n
theorem strip_mpr {hp : HpL} {l : Nat} : strip hp (.mpr l) = .mpr l := rfl
theorem strip1_mpr {hp : HpL} {l : Nat} : strip1 hp (.mpr l) = .mpr l := rfl
theorem tidy_mpr {hp : HpL} {l : Nat} : tidy hp (.mpr l) = .mpr l := rfl
theorem tidy1_mpr {hp : HpL} {l : Nat} : tidy1 hp (.mpr l) = .mpr l := rfl
theorem okv_mpr {l : Nat} : (AV.mpr l).okv = true := rfl
theorem cells_mpr {l : Nat} : (AV.mpr l).cells = [.mpr l] := rfl
theorem bid_mpr {l : Nat} : AV.bid (.mpr l) = [] := rfl
theorem bid1_mpr {l : Nat} : AV.bid1 (.mpr l) = [] := rfl
theorem shr_mpr {l : Nat} : (AV.mpr l).shr = .mpr l := rfl
theorem isUnd_mpr {l : Nat} : AV.isUnd (.mpr l) = false := rfl
theorem inS_mpr {τ : AS} {l : Nat} : inScope τ (.mpr l) = True := rfl
theorem inS1_mpr {τ : AS} {l : Nat} : inScope1 τ (.mpr l) = True := rfl
theorem strip_nilp {hp : HpL} : strip hp .nilp = .nilp := rfl
theorem tidy_nilp {hp : HpL} : tidy hp .nilp = .nilp := rfl
theorem bid_nilp : AV.bid .nilp = [] := rfl
theorem isUnd_nilp : AV.isUnd .nilp = false := rfl
theorem inS_nilp {τ : AS} : inScope τ .nilp = True := rfl
attribute [go_sem] strip_mpr strip1_mpr tidy_mpr tidy1_mpr okv_mpr cells_mpr bid_mpr bid1_mpr shr_mpr isUnd_mpr inS_mpr inS1_mpr strip_nilp tidy_nilp bid_nilp isUnd_nilp inS_nilp
theorem c20 : Ctr Tryz.prog 20 [QT tE, .int 1, .int 0] (.tup [SP ⟨0, 2⟩, .int 0]) := by
 refine ctr_of_wp hmix Tryz.func20 m20 rfl ?_
 unfold v20
 simp -failIfUnchanged (disch := first|omega|(simp<;>omega)|fail) only [go_sem,simprocAttr]
 refine wopsB [3, 4, 5] ?_
 simp -failIfUnchanged (disch := first|omega|(simp<;>omega)|fail) only [go_sem,simprocAttr]
 refine wcall c45E1 ?_
 simp -failIfUnchanged (disch := first|omega|(simp<;>omega)|fail) only [go_sem,simprocAttr]
 refine wcall c45E0 ?_
 simp -failIfUnchanged (disch := first|omega|(simp<;>omega)|fail) only [go_sem,simprocAttr]
 refine wcall_in hmix Tryz.func44 m44 rfl ?_
 unfold v44
 simp -failIfUnchanged (disch := first|omega|(simp<;>omega)|fail) only [go_sem,simprocAttr]
 refine wcall_in hmix Tryz.func70 m70 rfl ?_
 unfold v70
 simp -failIfUnchanged (disch := first|omega|(simp<;>omega)|fail) only [go_sem,simprocAttr]
 refine wcall c85E ?_
 simp -failIfUnchanged (disch := first|omega|(simp<;>omega)|fail) only [go_sem,simprocAttr]
 refine wmmakeX fun l => ?_
 simp -failIfUnchanged (disch := first|omega|(simp<;>omega)|fail) only [go_sem,simprocAttr]
 have hWl : tE.wd.length = 3 := rfl
 have a0 : agrB (tE.wd[0]?.getD default) fE = true := by kernel_rfl
 have a1 : agrB (tE.wd[1]?.getD default) fE = false := by kernel_rfl
 have a2 : agrB (tE.wd[2]?.getD default) fE = true := by kernel_rfl
 have k0 := c86E (tE.wd[0]?.getD default) (by decide) (by decide)
 have k1 := c86E (tE.wd[1]?.getD default) (by decide) (by decide)
 have k2 := c86E (tE.wd[2]?.getD default) (by decide) (by decide)
 rw [a0] at k0
 rw [a1] at k1
 rw [a2] at k2
 refine wp_loopX Nat (fun i => ⟨[(2, .ptr 3002 0), (7, .ptr 3020 0), (22, WL tE.wd), (23, .int tE.wd.length), (24, .int i)],
  [(3020, ⟨crt (match i with | 0 => 0 | 1 => 1 | 2 => 1 | _ => 5) l, false⟩), (3002, ⟨QC tE, false⟩), (2002, ⟨QC tE, false⟩), (6, ⟨[.int 0, .int 0], false⟩), (5, ⟨[.int 0], true⟩), (4, ⟨[.int 1], true⟩), (3, ⟨QC tE, true⟩)], [], some (.mp l 1 [])⟩) (fun i => i ≤ 3) (fun i => 3 - i) 0 (by simp) (by simp -failIfUnchanged (disch := first|omega|(simp<;>omega)|fail) only [go_sem,simprocAttr]; try simp) (fun i => by simp -failIfUnchanged (disch := first|omega|(simp<;>omega)|fail) only [go_sem,simprocAttr]; try simp) ?_
 intro i hi
 have h9 : i = 0 ∨ i = 1 ∨ i = 2 ∨ i = 3 := by have : i ≤ 3 := hi; omega
 rcases h9 with rfl | rfl | rfl | rfl
 ·simp -failIfUnchanged (disch := first|omega|(simp<;>omega)|fail) only [go_sem,simprocAttr, hWl]
  refine wcall k0 ?_
  simp -failIfUnchanged (disch := first|omega|(simp<;>omega)|fail) only [go_sem,simprocAttr]
  refine lpx_norm ⟨1, by decide, by decide, ?_⟩
  simp -failIfUnchanged (disch := first|omega|(simp<;>omega)|fail) only [go_sem,simprocAttr, hWl]
  try simp
 ·simp -failIfUnchanged (disch := first|omega|(simp<;>omega)|fail) only [go_sem,simprocAttr, hWl]
  refine wcall k1 ?_
  simp -failIfUnchanged (disch := first|omega|(simp<;>omega)|fail) only [go_sem,simprocAttr]
  refine lpx_norm ⟨2, by decide, by decide, ?_⟩
  simp -failIfUnchanged (disch := first|omega|(simp<;>omega)|fail) only [go_sem,simprocAttr, hWl]
  try simp
 ·simp -failIfUnchanged (disch := first|omega|(simp<;>omega)|fail) only [go_sem,simprocAttr, hWl]
  refine wcall k2 ?_
  simp -failIfUnchanged (disch := first|omega|(simp<;>omega)|fail) only [go_sem,simprocAttr]
  refine lpx_norm ⟨3, by decide, by decide, ?_⟩
  simp -failIfUnchanged (disch := first|omega|(simp<;>omega)|fail) only [go_sem,simprocAttr, hWl]
  try simp
 ·simp -failIfUnchanged (disch := first|omega|(simp<;>omega)|fail) only [go_sem,simprocAttr, hWl]
  unfold crt
  refine .inl ⟨?_, ?_⟩
  ·simp -failIfUnchanged (disch := first|omega|(simp<;>omega)|fail) only [go_sem,simprocAttr]
  ·simp -failIfUnchanged (disch := first|omega|(simp<;>omega)|fail) only [go_sem,simprocAttr]
   refine .inl ⟨?_, ?_⟩
   ·simp -failIfUnchanged (disch := first|omega|(simp<;>omega)|fail) only [go_sem,simprocAttr]
   ·simp -failIfUnchanged (disch := first|omega|(simp<;>omega)|fail) only [go_sem,simprocAttr]
    refine wopsN [] ?_
    simp -failIfUnchanged (disch := first|omega|(simp<;>omega)|fail) only [go_sem,simprocAttr]
    refine wcall (c46 l) ?_
    simp -failIfUnchanged (disch := first|omega|(simp<;>omega)|fail) only [go_sem,simprocAttr]
    try rfl
end Go.Proofs.YtggnmemkhookdaaGreatDoor.Qr

set_option linter.unusedSimpArgs false
set_option linter.unusedVariables false
set_option linter.unnecessarySimpa false
namespace Go.Proofs.YtggnmemkhookdaaGreatDoor.Bo
open Go Go.V Kn
theorem tie_K13 : tieR bkK 13 = ([1, 3], 0) := by kernel_rfl
theorem c7 : Ctr Tryz.prog 7 [] (.bool true) := by
 refine ctr_of_wp hmix Tryz.func7 m7 rfl ?_
 unfold v7
 have k1 := Qr.c18
 have k2 := Qr.c20
 have k3 := Fi.c22
 have k4 := Fi.c10 Fi.bkX Fi.bkX_s
 have k5 := c21r bkK smK 13
 have k6 := c19
 rw [Fi.x2] at k4
 rw [tie_K13] at k5
 generalize Fi.bkX = X at *
 generalize Qr.tE = E at *
 generalize Qr.tG = G at *
 generalize bkK = K at *
 generalize bkL = L at *
 simp -failIfUnchanged (disch := first|omega|(simp<;>omega)|fail) only [go_sem,simprocAttr]
 refine wcall k1 ?_
 simp -failIfUnchanged (disch := first|omega|(simp<;>omega)|fail) only [go_sem,simprocAttr]
 refine wcall k6 ?_
 simp -failIfUnchanged (disch := first|omega|(simp<;>omega)|fail) only [go_sem,simprocAttr]
 refine wcall k2 ?_
 simp -failIfUnchanged (disch := first|omega|(simp<;>omega)|fail) only [go_sem,simprocAttr]
 refine wcall k5 ?_
 simp -failIfUnchanged (disch := first|omega|(simp<;>omega)|fail) only [go_sem,simprocAttr]
 refine wcall k3 ?_
 simp -failIfUnchanged (disch := first|omega|(simp<;>omega)|fail) only [go_sem,simprocAttr]
 refine wcall k4 ?_
 simp -failIfUnchanged (disch := first|omega|(simp<;>omega)|fail) only [go_sem,simprocAttr]
 refine wcall (c23 [1, 3] [1, 3] (by simp)) ?_
 simp -failIfUnchanged (disch := first|omega|(simp<;>omega)|fail) only [go_sem,simprocAttr]
 try simp
end Go.Proofs.YtggnmemkhookdaaGreatDoor.Bo

set_option linter.unusedSimpArgs false
set_option linter.unusedVariables false
set_option linter.unnecessarySimpa false
namespace Go.Proofs.YtggnmemkhookdaaGreatDoor.Fi
open Go Go.V Kn
def enT (b : Bk) (late : Int) (i : Nat) : En := ⟨(i : Int) * (late + 1), 0, b.cords[i]?.getD default⟩
def esL (b : Bk) (late : Int) (k : Nat) : List En := (List.range k).map (enT b late)
def bkF (b : Bk) (late : Int) : FB := ⟨b.base, b.places, 1, late, esL b late b.cords.length, esL b late b.cords.length⟩
theorem esL_len (b : Bk) (late : Int) (k : Nat) : (esL b late k).length = k := by simp [esL]
theorem esL_at (b : Bk) (late : Int) {k i : Nat} (hi : i < k) : (esL b late k)[i]?.getD default = enT b late i := by simp [esL, hi]
theorem esL_succ (b : Bk) (late : Int) (k : Nat) : esL b late (k + 1) = esL b late k ++ [enT b late k] := by simp [esL, List.range_succ]
theorem one_bk (b : Bk) (late : Int) {i : Nat} (hi : i < b.cords.length) : one (bkF b late) i = enT b late i := esL_at b late hi
theorem oth_bk (b : Bk) (late : Int) {i : Nat} (hi : i < b.cords.length) : oth (bkF b late) i = enT b late i := esL_at b late hi
structure HB (b : Bk) (late : Int) : Prop where
 v : Val b
 l : 0 ≤ late ∧ late ≤ 10
theorem HB.vc {b : Bk} {late : Int} (h : HB b late) {i : Nat} (hi : i < b.cords.length) : VC1 (bkF b late) (b.cords[i]?.getD default) := by
 have := h.v.cord _ (mem_getD hi)
 exact ⟨this.1, this.2⟩
theorem HB.day {b : Bk} {late : Int} (h : HB b late) {i : Nat} (hi : i < b.cords.length) : 0 ≤ (i : Int) * (late + 1) ∧ (i : Int) * (late + 1) ≤ 99 := by
 have := h.v.hc
 have hl := h.l
 have h4 : i = 0 ∨ i = 1 ∨ i = 2 ∨ i = 3 := by omega
 rcases h4 with rfl | rfl | rfl | rfl <;> constructor <;> omega
theorem HB.bp {b : Bk} {late : Int} (h : HB b late) : bpB (bkF b late) = true := by
 have h1 := h.v.hb
 have h2 := h.v.hp
 have e1 : Kn.within b.base 2 10 = true := by unfold Kn.within; exact decide_eq_true (by omega)
 have e2 : Kn.within b.places 1 4 = true := by unfold Kn.within; exact decide_eq_true (by omega)
 show (Kn.within b.base 2 10 && Kn.within b.places 1 4) = true
 rw [e1, e2]
 rfl
theorem HB.chk {b : Bk} {late : Int} (h : HB b late) : chkB (bkF b late) = true := by
 have hl := h.l
 have hc := h.v.hc
 have hls : listB (bkF b late) (esL b late b.cords.length) = true := by
  simp only [listB, esL_len, Bool.and_eq_true, decide_eq_true_eq, List.all_eq_true]
  refine ⟨by omega, fun e he => ?_⟩
  obtain ⟨i, hi, rfl⟩ := List.mem_map.1 he
  have hi := List.mem_range.1 hi
  have hd := h.day hi
  have hcd := cd_iff.2 (h.vc hi)
  simp only [entB, enT, h.bp, hcd, Bool.and_true, Bool.and_eq_true]
  refine ⟨decide_eq_true hd, ?_⟩
  show within 0 0 (w64 (1 - 1)) = true
  decide
 have hb := h.bp
 unfold chkB
 rw [hb, show (bkF b late).ones = esL b late b.cords.length from rfl, show (bkF b late).others = esL b late b.cords.length from rfl, hls]
 have e1 : Kn.within late 0 30 = true := by unfold Kn.within; exact decide_eq_true (by omega)
 show (true && (Kn.within 1 0 4 && (Kn.within late 0 30 && (true && true)))) = true
 rw [e1]
 decide
theorem HB.vf {b : Bk} {late : Int} (h : HB b late) : VF (bkF b late) := vf_of h.chk
theorem HB.sm {b : Bk} {late : Int} (h : HB b late) : SmF (bkF b late) := by
 have hc := h.v.hc
 have hp := h.v.hp
 have hs : SmE (esL b late b.cords.length) := ⟨by rw [esL_len]; omega, fun e he => by
  obtain ⟨i, hi, rfl⟩ := List.mem_map.1 he
  have hi := List.mem_range.1 hi
  have := (h.v.cord _ (mem_getD hi)).1
  show (b.cords[i]?.getD default).length < _
  omega⟩
 exact ⟨hs, hs⟩
theorem cmS_self (s : Sp) : cmS s s = s := by
 cases s
 simp [cmS]
theorem comL_self (c : List Sp) : comL c c = c := by
 apply List.ext_getElem
 ·rw [comL, comK_len]
 ·intro i h1 h2
  simp only [comL, comK, List.getElem_map, List.getElem_range, cmS_self]
  rw [List.getElem?_eq_getElem h2]
  rfl
theorem HB.com {b : Bk} {late : Int} (h : HB b late) {i j : Nat} (hi : i < b.cords.length) (hj : j < b.cords.length) : comB late (enT b late i) (enT b late j) = decide (i = j) := by
 have hc := h.v.hc
 have hl := h.l
 have hf : fitB (b.cords[i]?.getD default) = true := by
  unfold fitB
  rw [List.all_eq_true]
  intro s hs
  have := (h.vc hi).s s hs
  exact decide_eq_true this.2.1
 unfold comB
 by_cases e : i = j
 ·subst e
  have hd := h.day hi
  have h0 : dayI (enT b late i) (enT b late i) = 0 := by
   unfold dayI enT
   dsimp only
   rw [w64_id (by omega)]
   omega
  rw [h0]
  simp only [enT, comL_self, hf, Bool.and_true]
  rw [decide_eq_true hl.1]
  simp
 ·have h0 : ¬ dayI (enT b late i) (enT b late j) ≤ late := by
   unfold dayI enT
   dsimp only
   have d1 := h.day hi
   have d2 := h.day hj
   rw [w64_id (by omega), w64_id (by omega)]
   have h4 : i = 0 ∨ i = 1 ∨ i = 2 ∨ i = 3 := by omega
   have h5 : j = 0 ∨ j = 1 ∨ j = 2 ∨ j = 3 := by omega
   rcases h4 with rfl | rfl | rfl | rfl <;> rcases h5 with rfl | rfl | rfl | rfl <;> first | (exact absurd rfl e) | omega
  rw [decide_eq_false h0, decide_eq_false e]
  simp
def idM (n : Nat) : List Pa := (List.range n).map fun i : Nat => (⟨(i : Int), (i : Int)⟩ : Pa)
theorem idM_len (n : Nat) : (idM n).length = n := by simp [idM]
theorem idM_succ (n : Nat) : idM (n + 1) = idM n ++ [⟨(n : Int), (n : Int)⟩] := by simp [idM, List.range_succ]
theorem HB.len {b : Bk} {late : Int} (_ : HB b late) : (bkF b late).ones.length = b.cords.length ∧ (bkF b late).others.length = b.cords.length := ⟨esL_len _ _ _, esL_len _ _ _⟩
theorem HB.gm {b : Bk} {late : Int} (h : HB b late) : GM (bkF b late) b.cords.length (idM b.cords.length) := by
 refine ⟨fun p hp => ?_, ?_, ?_⟩
 ·obtain ⟨i, hi, rfl⟩ := List.mem_map.1 hp
  have hi := List.mem_range.1 hi
  dsimp only
  rw [h.len.2, Int.toNat_natCast, one_bk b late hi, oth_bk b late hi]
  refine ⟨by omega, by omega, ?_⟩
  show comB late _ _ = true
  rw [h.com hi hi]
  simp
 ·unfold idM
  rw [List.pairwise_map]
  exact List.pairwise_lt_range.imp fun h => by dsimp only; omega
 ·unfold idM
  rw [List.pairwise_map]
  exact List.pairwise_lt_range.imp fun h => by dsimp only; omega
theorem HB.uniq {b : Bk} {late : Int} (h : HB b late) {x : List Pa} (hg : GM (bkF b late) b.cords.length x) (hx : x.length = b.cords.length) : x = idM b.cords.length := by
 have hp := List.pairwise_iff_getElem.1 hg.o
 have up : ∀ (d i : Nat) (hi : i + d < x.length), (x[i]'(by omega)).one + d ≤ (x[i + d]'hi).one := by
  intro d
  induction d with
  | zero => intro i hi; simp
  | succ d ih =>
   intro i hi
   have h1 := ih i (by omega)
   have h2 := hp (i + d) (i + (d + 1)) (by omega) hi (by omega)
   omega
 apply List.ext_getElem
 ·rw [idM_len, hx]
 ·intro i h1 h2
  have hb := hg.p _ (List.getElem_mem h1)
  have h0 := hg.p _ (List.getElem_mem (show 0 < x.length by omega))
  have hl := hg.p _ (List.getElem_mem (show x.length - 1 < x.length by omega))
  have u1 := up i 0 (by omega)
  have u2 := up (x.length - 1 - i) i (by omega)
  simp only [Nat.zero_add] at u1
  have e : i + (x.length - 1 - i) = x.length - 1 := by omega
  simp only [e] at u2
  have e1 : (x[i]'h1).one = i := by omega
  rw [h.len.2] at hb
  obtain ⟨b1, b2, b3⟩ := hb
  rw [one_bk b late (by omega), oth_bk b late (by omega)] at b3
  have b3 : comB late (enT b late (x[i]'h1).one.toNat) (enT b late (x[i]'h1).other.toNat) = true := b3
  rw [h.com (by omega) (by omega)] at b3
  have e2 := of_decide_eq_true b3
  simp only [idM, List.getElem_map, List.getElem_range]
  have hext : ∀ p : Pa, p.one = (i : Int) → p.other = (i : Int) → p = ⟨(i : Int), (i : Int)⟩ := by
   rintro ⟨o, t⟩ q1 q2
   dsimp only at q1 q2
   rw [q1, q2]
  exact hext _ e1 (by omega)
theorem HB.lrg {b : Bk} {late : Int} (h : HB b late) : (∀ t ∈ lrgL (bkF b late), t = idM b.cords.length) ∧ fstM (bkF b late) = idM b.cords.length := by
 have hall : ∀ t ∈ lrgL (bkF b late), t = idM b.cords.length := by
  intro t ht
  obtain ⟨h1, h2⟩ := mem_lrg.1 ht
  have hn : (bkF b late).ones.length = b.cords.length := h.len.1
  rw [hn] at h1
  refine h.uniq h1 ?_
  have h3 := h2 (idM b.cords.length) (by rw [hn]; exact h.gm)
  rw [idM_len] at h3
  have h4 := gm_len (t := t) (b := bkF b late) (by rw [hn]; exact h1)
  omega
 exact ⟨hall, hall _ (fst_most (bkF b late)).1⟩
theorem HB.few {b : Bk} {late : Int} (h : HB b late) : fewR (bkF b late) = .tup [.int (b.cords.length : Nat), .int 0] := by
 have he : errF (bkF b late) = 0 := by unfold errF; rw [h.chk, if_pos rfl]
 unfold fewR fewI
 rw [h.chk, if_pos rfl, he, h.lrg.2, idM_len, h.len.1, h.len.2]
 congr
 omega
theorem HB.mus {b : Bk} {late : Int} (h : HB b late) : musR (bkF b late) = .tup [PS (idM b.cords.length), .int 0] := by
 have he : errF (bkF b late) = 0 := by unfold errF; rw [h.chk, if_pos rfl]
 have hm : musL (bkF b late) = idM b.cords.length := by
  unfold musL
  rw [h.lrg.2]
  rw [List.filter_eq_self]
  intro p hp
  unfold musP
  rw [List.all_eq_true]
  intro t ht
  rw [h.lrg.1 t ht]
  exact hasB_iff.2 hp
 unfold musR
 rw [h.chk, if_pos rfl, he, hm]
theorem HB.twc {b : Bk} {late : Int} (h : HB b late) : twcR (bkF b late) 0 = .tup [PS [], .int 0] := by
 have he : bkE (bkF b late) 0 = 0 := ask_ok h.chk (by decide)
 have hr : ∀ i, i < b.cords.length → twR late (esL b late b.cords.length) i b.cords.length = [] := by
  intro i hi
  unfold twR
  have : (List.range b.cords.length).filter (twP late (esL b late b.cords.length) i) = [] := by
   rw [List.filter_eq_nil_iff]
   intro k hk
   have hk := List.mem_range.1 hk
   unfold twP
   rw [esL_at b late hi, esL_at b late hk, h.com hi hk]
   intro q
   simp only [Bool.and_eq_true, decide_eq_true_eq] at q
   omega
  rw [this]
  rfl
 have hk : ∀ k, k ≤ b.cords.length → twK late (esL b late b.cords.length) k = [] := by
  intro k
  induction k with
  | zero => intro _; rfl
  | succ k ih =>
   intro hk
   unfold twK
   rw [ih (by omega), esL_len, hr k (by omega)]
   rfl
 unfold twcR
 rw [he, if_pos rfl]
 show AV.tup [PS (twK late (esL b late b.cords.length) (esL b late b.cords.length).length), .int 0] = _
 rw [esL_len, hk _ (Nat.le_refl _)]
def sumC (b : Bk) : Nat → Sp
 | 0 => zS
 | k + 1 => addS (sumC b k) (endsL b.base (cordAt b k))
theorem HB.owd {b : Bk} {late : Int} (h : HB b late) (hn : 0 < b.cords.length) : owdR (bkF b late) 0 = .tup [SP (sumC b b.cords.length), .int 0] := by
 have he : owE (bkF b late) 0 = 0 := ask_ok h.chk (by show Kn.within 0 0 (w64 (1 - 1)) = true; decide)
 have hg : GM (bkF b late) (bkF b late).ones.length (idM b.cords.length) := by rw [h.len.1]; exact h.gm
 have ho : owdI (bkF b late) (idM b.cords.length) 0 = sumC b b.cords.length := by
  rw [ow_eq hg 0]
  unfold owC
  have h1 : sS (onF (bkF b late) (idM b.cords.length) 0) (bkF b late).ones.length = zS := by
   rw [h.len.1, ← sS_z b.cords.length]
   refine sS_congr fun i hi => ?_
   unfold onF
   rw [if_neg]
   intro q
   have : inO (idM b.cords.length) i = true := by
    rw [List.any_eq_true]
    exact ⟨⟨(i : Int), (i : Int)⟩, List.mem_map.2 ⟨i, List.mem_range.2 hi, rfl⟩, by simp⟩
   rw [this] at q
   cases q.2
  have h2 : sS (otF (bkF b late) (idM b.cords.length) 0) (bkF b late).others.length = zS := by
   rw [h.len.2, ← sS_z b.cords.length]
   refine sS_congr fun i hi => ?_
   unfold otF
   rw [if_neg]
   intro q
   have : inT (idM b.cords.length) i = true := by
    rw [List.any_eq_true]
    exact ⟨⟨(i : Int), (i : Int)⟩, List.mem_map.2 ⟨i, List.mem_range.2 hi, rfl⟩, by simp⟩
   rw [this] at q
   cases q.2
  rw [h1, h2, addS_z, addS_z]
  have key : ∀ k, k ≤ b.cords.length → lS (prF (bkF b late) 0) (idM k) = sumC b k := by
   intro k
   induction k with
   | zero => intro _; rfl
   | succ k ih =>
    intro hk
    rw [idM_succ, lS_app, ih (by omega)]
    show addS (sumC b k) (addS (prF (bkF b late) 0 ⟨(k : Int), (k : Int)⟩) zS) = addS (sumC b k) _
    rw [addS_z]
    congr 1
    unfold prF pcI
    dsimp only
    rw [Int.toNat_natCast, one_bk b late (by omega), oth_bk b late (by omega), if_pos (show (enT b late k).who = 0 from rfl)]
    show endsL b.base (comL _ _) = _
    rw [comL_self]
    unfold cordAt enT
    rw [if_neg (by omega)]
  exact key _ (Nat.le_refl _)
 have hrg : ∀ (l : List (List Pa)) (T : List Pa), l ≠ [] → (∀ t ∈ l, t = T) → ∀ k, k ≤ l.length → rgK (bkF b late) 0 l k = owdI (bkF b late) T 0 := by
  intro l T h0 hall k
  have hat : ∀ i, i < l.length → l[i]?.getD default = T := fun i hi => hall _ (mem_getD hi)
  induction k with
  | zero =>
   intro _
   unfold rgK
   rw [hat 0 (List.length_pos_iff.2 h0)]
  | succ k ih =>
   intro hk
   unfold rgK
   rw [ih (by omega), hat k (by omega), Int.min_self, Int.max_self]
 unfold owdR
 rw [he, if_pos rfl, hrg _ _ (lrgL_ne _) h.lrg.1 _ (Nat.le_refl _), ho]
end Go.Proofs.YtggnmemkhookdaaGreatDoor.Fi

set_option linter.unusedSimpArgs false
set_option linter.unusedVariables false
set_option linter.unnecessarySimpa false
namespace Go.Proofs.YtggnmemkhookdaaGreatDoor.Bo
open Go Go.V Kn
theorem sums_sum (b : Bk) (f : Bool) : ∀ (k : Nat) (first l : List Nat), l ∈ sumsN b f k first → l[first.length + k]?.getD default = (l.take (first.length + k)).sum
 | 0, first, l, hl => by
  unfold sumsN at hl
  split at hl
  ·simp only [List.mem_singleton] at hl
   subst hl
   simp
  ·simp at hl
 | k + 1, first, l, hl => by
  unfold sumsN at hl
  obtain ⟨n, _, hl⟩ := List.mem_flatMap.1 hl
  have := sums_sum b f k (first ++ [n]) l hl
  rw [List.length_append, List.length_singleton, show first.length + 1 + k = first.length + (k + 1) by omega] at this
  exact this
theorem top_sum {b : Bk} {l : List Nat} (hl : l ∈ allNs b) : l[b.cords.length]?.getD default = (l.take b.cords.length).sum := by
 have := sums_sum b false b.cords.length [] l hl
 simpa using this
theorem ends_all {b : Bk} (hv : Val b) {c : Nat} (hc : c ≤ b.cords.length) : 0 ≤ (endsL b.base (cordAt b c)).lo ∧ (endsL b.base (cordAt b c)).lo ≤ (endsL b.base (cordAt b c)).hi ∧ (endsL b.base (cordAt b c)).hi < (allN b : Int) ∧ (endsL b.base (cordAt b c)).hi < 10000 := by
 have hb := hv.hb
 have hp := hv.hp
 obtain ⟨h1, h2⟩ := cordAt_val hv hc
 obtain ⟨B, hB⟩ : ∃ B : Nat, b.base = B := ⟨b.base.toNat, by omega⟩
 obtain ⟨P, hP⟩ : ∃ P : Nat, b.places = P := ⟨b.places.toNat, by omega⟩
 have hle := Fi.ends_bd (b := Fi.bkF b 0) (Fi.HB.vf (b := b) (late := 0) ⟨hv, by omega⟩) (x := cordAt b c) ⟨h1, h2⟩
 have hle : 0 ≤ (endsL b.base (cordAt b c)).lo ∧ (endsL b.base (cordAt b c)).lo ≤ (endsL b.base (cordAt b c)).hi ∧ (endsL b.base (cordAt b c)).hi < 10000 := hle
 refine ⟨hle.1, hle.2.1, ?_, hle.2.2⟩
 rw [ends_num]
 dsimp only
 obtain ⟨n, q1, q2, _⟩ := dig_num (B := B) (by omega) P ((cordAt b c).map fun s => s.hi) (by rw [List.length_map]; omega) (by omega) (fun d hd => by
  obtain ⟨s, hs, rfl⟩ := List.mem_map.1 hd
  have := h2 s hs
  omega)
 rw [hB, q1]
 have e : allN b = B ^ P := by
  unfold allN
  rw [hB, hP]
  rfl
 rw [e]
 omega
theorem sumC_bd {b : Bk} (hv : Val b) : ∀ k, k ≤ b.cords.length → 0 ≤ (Fi.sumC b k).lo ∧ (Fi.sumC b k).lo ≤ (Fi.sumC b k).hi ∧ (Fi.sumC b k).hi ≤ 10000 * k
 | 0, _ => by simp [Fi.sumC, Fi.zS]
 | k + 1, hk => by
  have h1 := sumC_bd hv k (by omega)
  have h2 := ends_all hv (c := k) (by omega)
  show 0 ≤ (Fi.sumC b k).lo + _ ∧ (Fi.sumC b k).lo + (endsL b.base (cordAt b k)).lo ≤ (Fi.sumC b k).hi + (endsL b.base (cordAt b k)).hi ∧ (Fi.sumC b k).hi + (endsL b.base (cordAt b k)).hi ≤ _
  omega
theorem in_sum {b : Bk} (hv : Val b) {l : List Nat} (hl : l ∈ allNs b) : ∀ k, k ≤ b.cords.length → (Fi.sumC b k).lo ≤ (((l.take k).sum : Nat) : Int) ∧ (((l.take k).sum : Nat) : Int) ≤ (Fi.sumC b k).hi
 | 0, _ => by simp [Fi.sumC, Fi.zS]
 | k + 1, hk => by
  have h1 := in_sum hv hl k (by omega)
  have h2 := ends_in hv hl (c := k) (by omega)
  have hlen := (sumsN_mem b false b.cords.length [] l (by simp) hl).1
  have e : (l.take (k + 1)).sum = (l.take k).sum + l[k]?.getD default := by
   rw [Qr.take_snoc (by simp at hlen; omega), List.sum_append, List.sum_singleton]
  rw [e]
  show (Fi.sumC b k).lo + (endsL b.base (cordAt b k)).lo ≤ _ ∧ _ ≤ (Fi.sumC b k).hi + (endsL b.base (cordAt b k)).hi
  omega
theorem sure_top {b : Bk} (hc0 : checkB b = true) : ((allNs b).length = 0 ∧ sureR b b.cords.length = (⟨0, 0⟩, 3)) ∨
  ∃ u, sureR b b.cords.length = (u, 0) ∧ (Fi.sumC b b.cords.length).lo ≤ u.lo ∧ u.hi ≤ (Fi.sumC b b.cords.length).hi ∧ u.lo ≤ u.hi := by
 have hv := val_of_check hc0
 have hw : within ((b.cords.length : Nat) : Int) 0 b.cords.length = true := by simp [within]
 rcases Nat.eq_zero_or_pos (allNs b).length with h0 | hpos
 ·refine .inl ⟨h0, ?_⟩
  unfold sureR ansS
  rw [hc0, hw, if_pos rfl, if_pos rfl, if_pos h0]
 ·refine .inr ?_
  have hcs : colS b b.cords.length (allNs b).length = (allNs b).map fun l => ((l[b.cords.length]?.getD default : Nat) : Int) := by
   unfold colS
   rw [List.take_length]
  obtain ⟨⟨l1, h1, e1⟩, ⟨l2, h2, e2⟩, h3⟩ := spanL_map (fun l : List Nat => ((l[b.cords.length]?.getD default : Nat) : Int)) hpos
  refine ⟨spanL ((allNs b).map fun l => ((l[b.cords.length]?.getD default : Nat) : Int)) (allNs b).length, ?_, ?_, ?_, ?_⟩
  ·unfold sureR ansS
   rw [hc0, hw, if_pos rfl, if_pos rfl, if_neg (by omega), Int.toNat_natCast, hcs]
  ·rw [e1, top_sum h1]
   exact (in_sum hv h1 _ (Nat.le_refl _)).1
  ·rw [e2, top_sum h2]
   exact (in_sum hv h2 _ (Nat.le_refl _)).2
  ·have := h3 l1 h1
   omega
end Go.Proofs.YtggnmemkhookdaaGreatDoor.Bo

set_option linter.unusedSimpArgs false
set_option linter.unusedVariables false
set_option linter.unnecessarySimpa false
namespace Go.Proofs.YtggnmemkhookdaaGreatDoor.Bo
open Go Go.V Kn
def eC (b : Bk) (late : Int) (k : Nat) : Nat → AV
 | 0 => .sl 3 [] .full
 | i + 1 => .sl 3 ((Fi.esL b late (i + 1)).map Fi.EN) (.own k)
def eT : Nat → List (Nat × Nat)
 | 0 => []
 | i + 1 => [(89, i + 1), (84, i + 1)]
set_option maxHeartbeats 3200000 in
theorem c3 (b : Bk) (h1 : b.cords.length < 9223372036854775808) (late : Int) : Ctr Tryz.prog 3 [KB b, .int late] (.bool true) := by
 refine ctr_of_wp hmix Tryz.func3 m3f rfl ?_
 unfold v3f
 simp -failIfUnchanged (disch := first|omega|(simp<;>omega)|fail) only [go_sem,simprocAttr]
 refine wcall (c4 b h1) ?_
 cases hfb : farB b with
 | true =>
  simp -failIfUnchanged (disch := first|omega|(simp<;>omega)|fail) only [go_sem,simprocAttr]
  refine wcall c7 ?_
  simp -failIfUnchanged (disch := first|omega|(simp<;>omega)|fail) only [go_sem,simprocAttr]
  try simp
 | false =>
  have hs := small_small (far_false hfb).1
  simp -failIfUnchanged (disch := first|omega|(simp<;>omega)|fail) only [go_sem,simprocAttr]
  refine wcall (c5 b hs) ?_
  cases hc0 : checkB b with
  | false =>
   rw [if_neg (by simp)]
   simp -failIfUnchanged (disch := first|omega|(simp<;>omega)|fail) only [go_sem,simprocAttr]
   refine wcall c7 ?_
   simp -failIfUnchanged (disch := first|omega|(simp<;>omega)|fail) only [go_sem,simprocAttr]
   try simp
  | true =>
   rw [if_pos rfl]
   have hv := val_of_check hc0
   have hcl := hv.hc
   have hpp := hv.hp
   simp -failIfUnchanged (disch := first|omega|(simp<;>omega)|fail) only [go_sem,simprocAttr]
   refine WGd_bool (fun hn => ?_) (fun hn => ?_)
   ·simp -failIfUnchanged (disch := first|omega|(simp<;>omega)|fail) only [go_sem,simprocAttr, hn]
    have hn' : 0 < b.cords.length := by
     have := of_decide_eq_false hn
     omega
    refine wcall (c6 _ _ _) ?_
    cases hla : within late 0 10 with
    | false =>
     simp -failIfUnchanged (disch := first|omega|(simp<;>omega)|fail) only [go_sem,simprocAttr]
     refine wcall c7 ?_
     simp -failIfUnchanged (disch := first|omega|(simp<;>omega)|fail) only [go_sem,simprocAttr]
     try simp
    | true =>
     have hl : 0 ≤ late ∧ late ≤ 10 := by simpa [within] using hla
     have hb : Fi.HB b late := ⟨hv, hl⟩
     simp -failIfUnchanged (disch := first|omega|(simp<;>omega)|fail) only [go_sem,simprocAttr]
     refine wp_loop' Nat (fun i => ⟨[(1, .int late), (2, .ptr 2 0), (5, .ptr 5 0), (6, .ptr 6 0), (7, .int i)], [(5, ⟨[.int b.base, .int b.places, .int 1, .int late, eC b late 84 i, eC b late 89 i], false⟩), (6, ⟨[.int (Fi.sumC b i).lo, .int (Fi.sumC b i).hi], false⟩), (2, ⟨[.int b.base, .int b.places, .sl 1 (b.cords.map SS) .sh, SS b.top], false⟩)], eT i, none⟩) (fun i => i ≤ b.cords.length) (fun i => b.cords.length - i) 0 (by simp) (by unfold eC eT; simp -failIfUnchanged (disch := first|omega|(simp<;>omega)|fail) only [go_sem,simprocAttr]; try simp [Fi.sumC, Fi.zS]) ?_
     intro i hi
     have hi : i ≤ b.cords.length := hi
     simp -failIfUnchanged (disch := first|omega|(simp<;>omega)|fail) only [go_sem,simprocAttr]
     refine wcond_dec (fun hc => ?_) (fun hc => ?_)
     ·have hlt : i < b.cords.length := by omega
      have hday := hb.day hlt
      have hend := ends_all hv hi
      have hbd := sumC_bd hv i hi
      have c8' := c8r b hs i
      have hcr : cordR b i = (endsL b.base (cordAt b i), 0) := by
       unfold cordR
       rw [hc0, if_pos rfl, if_pos (by simp [within]; omega), Int.toNat_natCast]
      rw [hcr] at c8'
      have hC1 := (hv.cord _ (mem_getD hlt)).1
      have hsu := Fi.esL_succ b late i
      have hsc : Fi.sumC b (i + 1) = Fi.addS (Fi.sumC b i) (endsL b.base (cordAt b i)) := rfl
      have hen : Fi.EN (Fi.enT b late i) = .agg [.int ((i : Int) * (late + 1)), .int 0, SS (b.cords[i]?.getD default)] := rfl
      obtain ⟨C, hC⟩ : ∃ C, b.cords[i]?.getD default = C := ⟨_, rfl⟩
      rw [hC] at hC1 hen
      obtain ⟨S, hS⟩ : ∃ S, Fi.sumC b i = S := ⟨_, rfl⟩
      rw [hS] at hbd hsc ⊢
      obtain ⟨E, hE⟩ : ∃ E, endsL b.base (cordAt b i) = E := ⟨_, rfl⟩
      rw [hE] at hend hsc c8'
      obtain ⟨D, hD⟩ : ∃ D, (i : Int) * (late + 1) = D := ⟨_, rfl⟩
      rw [hD] at hday hen
      have e1 : w64 (late + 1) = late + 1 := w64_id (by omega)
      have e2 : w64 D = D := w64_id (by omega)
      have c9' := c9 b hv
      have e3 : decide (E.lo < 0) = false := decide_eq_false (by omega)
      have e4 : decide (E.hi < E.lo) = false := decide_eq_false (by omega)
      have e5 : decide ((allN b : Int) ≤ E.hi) = false := decide_eq_false (by omega)
      rcases i with _ | i
      ·simp only [eC, eT]
       have hel : (Fi.esL b late 0).length = 0 := rfl
       simp -failIfUnchanged (disch := first|omega|(simp<;>omega)|fail) only [go_sem,simprocAttr, hC, e1, hD, e2]
       refine wcall c8' ?_
       simp -failIfUnchanged (disch := first|omega|(simp<;>omega)|fail) only [go_sem,simprocAttr, e3, e4]
       refine wcall c9' ?_
       simp -failIfUnchanged (disch := first|omega|(simp<;>omega)|fail) only [go_sem,simprocAttr, e5]
       refine ⟨1, by dsimp only; omega, by dsimp only; omega, ?_⟩
       simp only [eC, eT]
       rw [hsu, hsc]
       unfold Fi.addS
       simp -failIfUnchanged (disch := first|omega|(simp<;>omega)|fail) only [go_sem,simprocAttr, hel]
       have hD' : (0 : Int) * (late + 1) = D := hD
       rw [hD', show Fi.esL b late 0 = [] from rfl, List.nil_append]
       simp only [List.map_cons, List.map_nil]
       rw [show Fi.enT b late 0 = Fi.enT b late 0 from rfl, hen]
      ·simp only [eC, eT]
       have hel := Fi.esL_len b late (i + 1)
       simp -failIfUnchanged (disch := first|omega|(simp<;>omega)|fail) only [go_sem,simprocAttr, hC, e1, hD, e2, hel]
       refine wcall c8' ?_
       simp -failIfUnchanged (disch := first|omega|(simp<;>omega)|fail) only [go_sem,simprocAttr, e3, e4]
       refine wcall c9' ?_
       simp -failIfUnchanged (disch := first|omega|(simp<;>omega)|fail) only [go_sem,simprocAttr, e5]
       refine ⟨i + 2, by dsimp only; omega, by dsimp only; omega, ?_⟩
       simp only [eC, eT]
       rw [hsu, hsc]
       unfold Fi.addS
       simp -failIfUnchanged (disch := first|omega|(simp<;>omega)|fail) only [go_sem,simprocAttr, hel]
       refine ⟨by omega, ?_⟩
       rw [List.map_append]
       simp only [List.map_cons, List.map_nil]
       rw [hen]
     ·obtain rfl : i = b.cords.length := by omega
      have hel := Fi.esL_len b late b.cords.length
      have hec : ∀ k, eC b late k b.cords.length = .sl 3 ((Fi.esL b late b.cords.length).map Fi.EN) (.own k) := by
       intro k
       obtain ⟨m, hm⟩ : ∃ m, b.cords.length = m + 1 := ⟨b.cords.length - 1, by omega⟩
       rw [hm]
       rfl
      have het : eT b.cords.length = [(89, b.cords.length), (84, b.cords.length)] := by
       obtain ⟨m, hm⟩ : ∃ m, b.cords.length = m + 1 := ⟨b.cords.length - 1, by omega⟩
       rw [hm]
       rfl
      rw [hec, hec, het]
      have k10 := Fi.c10 (Fi.bkF b late) hb.sm
      have k11 := Fi.c11 (Fi.bkF b late) hb.sm
      have k12 := Fi.c12 (Fi.bkF b late) hb.sm 0
      have k13 := Fi.c13 (Fi.bkF b late) hb.sm 0
      rw [hb.few] at k10
      rw [hb.mus] at k11
      rw [hb.owd hn'] at k12
      rw [hb.twc] at k13
      have hFK : Fi.FK (Fi.bkF b late) = .agg [.int b.base, .int b.places, .int 1, .int late, Fi.ES (Fi.esL b late b.cords.length), Fi.ES (Fi.esL b late b.cords.length)] := rfl
      rw [hFK] at k10 k11 k12 k13
      have hid := Fi.idM_len b.cords.length
      have hia : ∀ i : Nat, i < b.cords.length → (Fi.idM b.cords.length)[i]?.getD default = ⟨(i : Int), (i : Int)⟩ := fun i hi => by simp [Fi.idM, hi]
      have hst := sure_top hc0
      have c14' := c14r b hs (b.cords.length : Nat)
      obtain ⟨S, hS⟩ : ∃ S, Fi.sumC b b.cords.length = S := ⟨_, rfl⟩
      rw [hS] at k12 hst ⊢
      obtain ⟨M, hM⟩ : ∃ M, Fi.idM b.cords.length = M := ⟨_, rfl⟩
      rw [hM] at k11 hid hia
      obtain ⟨ES, hES⟩ : ∃ ES, Fi.esL b late b.cords.length = ES := ⟨_, rfl⟩
      rw [hES] at k10 k11 k12 k13 hel ⊢
      simp -failIfUnchanged (disch := first|omega|(simp<;>omega)|fail) only [go_sem,simprocAttr]
      refine wcall k10 ?_
      simp -failIfUnchanged (disch := first|omega|(simp<;>omega)|fail) only [go_sem,simprocAttr]
      refine wcall k11 ?_
      simp -failIfUnchanged (disch := first|omega|(simp<;>omega)|fail) only [go_sem,simprocAttr]
      refine wcall k12 ?_
      simp -failIfUnchanged (disch := first|omega|(simp<;>omega)|fail) only [go_sem,simprocAttr]
      refine wcall k13 ?_
      simp -failIfUnchanged (disch := first|omega|(simp<;>omega)|fail) only [go_sem,simprocAttr, hid]
      refine wp_loop' Nat (fun i => ⟨[(2, .ptr 2 0), (6, .ptr 6 0), (12, .int (b.cords.length : Nat)), (14, Fi.PS M), (20, .int i)], [(6, ⟨[.int S.lo, .int S.hi], false⟩), (2, ⟨[.int b.base, .int b.places, .sl 1 (b.cords.map SS) .sh, SS b.top], false⟩)], [], none⟩) (fun i => i ≤ b.cords.length) (fun i => b.cords.length - i) 0 (by simp) (by simp -failIfUnchanged (disch := first|omega|(simp<;>omega)|fail) only [go_sem,simprocAttr]; try simp) ?_
      intro i hi
      have hi : i ≤ b.cords.length := hi
      simp -failIfUnchanged (disch := first|omega|(simp<;>omega)|fail) only [go_sem,simprocAttr]
      refine wcond_dec (fun hc => ?_) (fun hc => ?_)
      ·have hlt : i < b.cords.length := by omega
       have hq := hia i hlt
       simp -failIfUnchanged (disch := first|omega|(simp<;>omega)|fail) only [go_sem,simprocAttr, hq, hid]
       refine ⟨i + 1, by dsimp only; omega, by dsimp only; omega, ?_⟩
       simp -failIfUnchanged (disch := first|omega|(simp<;>omega)|fail) only [go_sem,simprocAttr]
       try simp
      ·simp -failIfUnchanged (disch := first|omega|(simp<;>omega)|fail) only [go_sem,simprocAttr]
       rcases hst with ⟨h0, h3⟩ | ⟨u, h3, g1, g2, g3⟩
       ·rw [h3] at c14'
        refine wcall c14' ?_
        simp -failIfUnchanged (disch := first|omega|(simp<;>omega)|fail) only [go_sem,simprocAttr]
        refine wcall c7 ?_
        simp -failIfUnchanged (disch := first|omega|(simp<;>omega)|fail) only [go_sem,simprocAttr]
        try simp
       ·rw [h3] at c14'
        have e1 : decide (S.lo ≤ u.lo) = true := decide_eq_true g1
        have e2 : decide (u.hi ≤ S.hi) = true := decide_eq_true g2
        have e3 : decide (u.lo ≤ u.hi) = true := decide_eq_true g3
        refine wcall c14' ?_
        simp -failIfUnchanged (disch := first|omega|(simp<;>omega)|fail) only [go_sem,simprocAttr, e1, e2, e3]
        refine wcall c7 ?_
        simp -failIfUnchanged (disch := first|omega|(simp<;>omega)|fail) only [go_sem,simprocAttr]
        try simp
   ·simp -failIfUnchanged (disch := first|omega|(simp<;>omega)|fail) only [go_sem,simprocAttr, hn]
    refine wcall c7 ?_
    simp -failIfUnchanged (disch := first|omega|(simp<;>omega)|fail) only [go_sem,simprocAttr]
    try simp
end Go.Proofs.YtggnmemkhookdaaGreatDoor.Bo

set_option linter.unusedSimpArgs false
set_option linter.unusedVariables false
set_option linter.unnecessarySimpa false
namespace Go.Proofs.YtggnmemkhookdaaGreatDoor.Bo
open Go Go.V Kn Go.ChangeShapes Go.WideShapes Go.ChangeAt Go.RowKit
theorem gTab : Tryz.prog.globalNamed "math/bits.deBruijn64tab" = some 1 := by kernel_rfl
theorem tTab : (Tryz.prog.globals[1]?).map (·.type) = some 167 := by kernel_rfl
abbrev laid1 : List (String × DataW Unit) := [("math/bits.deBruijn32tab", Rows.laid_math_bits_deBruijn32tab), ("math/bits.deBruijn64tab", Rows.laid_math_bits_deBruijn64tab)]
theorem of_laid {W : World} (h : laidMetH Tryz.prog laid1 W) : W.cell? ⟨1, 0, none⟩ = some (.int .u8 0) ∧ W.cell? ⟨1, 3, none⟩ = some (.int .u8 2) := by
 rw [MakeChecks.laidMetH_plain _ _ _ (by kernel_rfl)] at h
 obtain ⟨ps, ⟨g0, t0, cs0, f0, p0, q0, hg0, ht0, hv0, hd0, ⟨g1, t1, cs1, f1, p1, q1, hg1, ht1, hv1, hd1, rest⟩, rest1⟩, rest2⟩ := h
 obtain rfl := Option.some.inj (gTab.symm.trans hg1)
 obtain rfl := Option.some.inj (tTab.symm.trans ht1)
 obtain ⟨xs, m, _, hx, hlen, hxl, hk⟩ := DataW.trod_array Tryz.underlying167 hd1
 have c5 : Tryz.prog.cellsOf 5 = 1 := by kernel_rfl
 have c167 : Tryz.prog.cellsOf 167 = 64 := by kernel_rfl
 rw [c167] at hlen
 have h0 := World.var?_cell hg1 hv1 0
 have h3 := World.var?_cell hg1 hv1 3
 obtain ⟨l⟩ := cs1
 have hl : l.length = 64 := hlen
 have hx' : (Rows.laid_math_bits_deBruijn64tab : DataW Unit) = .agg (xs.map (·.1)) := (Prod.mk.inj hx).1
 have at' : ∀ (i : Nat) (z : Int), i < 64 → (xs[i]?.map (·.1)) = some (.lit (.int .u8 z)) → l[i]? = some (.int .u8 z) := by
  intro i z hi hz
  have h4 := hk i hi
  rw [c5, Nat.mul_one] at h4
  obtain ⟨y, hy⟩ : ∃ y, xs[i]? = some y := by
   cases h : xs[i]? with
   | none => rw [h] at hz; cases hz
   | some y => exact ⟨y, rfl⟩
  rw [hy] at h4 hz
  obtain ⟨n, e1, e2, _⟩ := DataW.trod_int Tryz.underlying5 h4
  subst e2
  have e3 : (DataW.lit (.int .u8 n) : DataW Unit) = .lit (.int .u8 z) := Option.some.inj hz
  simp only [DataW.lit.injEq, Lit.int.injEq, true_and] at e3
  subst e3
  have e1' : List.take 1 (List.drop i l) = [.int .u8 n] := e1
  have : (List.take 1 (List.drop i l))[0]? = some (.int .u8 n) := by rw [e1']; rfl
  simpa using this
 have xat : ∀ i : Nat, (xs[i]?.map (·.1)) = (xs.map (·.1))[i]? := fun i => by rw [List.getElem?_map]
 have hxs : xs.map (·.1) = match (Rows.laid_math_bits_deBruijn64tab : DataW Unit) with | .agg l => l | _ => [] := by rw [hx']
 refine ⟨?_, ?_⟩
 ·rw [h0]
  rw [List.getElem?_toArray]
  refine at' 0 0 (by decide) ?_
  rw [xat, hxs]
  rfl
 ·rw [h3]
  rw [List.getElem?_toArray]
  refine at' 3 2 (by decide) ?_
  rw [xat, hxs]
  rfl
theorem gf_of {W : World} (h : laidMetH Tryz.prog laid1 W) : GF (CAll W) W := by
 obtain ⟨h0, h1⟩ := of_laid h
 intro x hx
 have : x = (1, 0, .u8, 0) ∨ x = (1, 3, .u8, 2) := by simpa [GL] using hx
 rcases this with rfl | rfl
 ·exact ⟨World.block_lt_of_cell? W _ h0, h0⟩
 ·exact ⟨World.block_lt_of_cell? W _ h1, h1⟩
end Go.Proofs.YtggnmemkhookdaaGreatDoor.Bo
