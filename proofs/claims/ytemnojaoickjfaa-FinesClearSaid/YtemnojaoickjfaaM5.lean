/- Merged by program: T2, T3, T4, T5, T6, T7, T8, T9, T10, T11, T12, T13, T14, T15, T16, T17, T18, T19, T20, T21, T22, T23, T24, T25, T26, T27, T28, T29. -/
import Derived.Test.YtemnojaoickjfaaM4
import Derived.Test.YtemnojaoickjfaaChecked
/- Contracts of knots.Check and of what it calls (out of knots). -/
set_option linter.unusedSimpArgs false
set_option linter.unusedVariables false
set_option linter.unnecessarySimpa false
namespace Go.Proofs.Ytemnojaoickjfaa
open Go Go.V

/-- The first place at which p holds, or -1. -/
def idxF {α : Type} (p : α → Bool) (l : List α) : Int := if l.any p then l.findIdx p else -1

theorem idxF_hit {α : Type} [Inhabited α] {p : α → Bool} {l : List α} {i : Nat} (hi : i < l.length) (hpre : ∀ x ∈ l.take i, p x = false) (h : p (l[i]?.getD default) = true) : idxF p l = i := by
  have e : l[i]?.getD default = l[i] := by simp [hi]
  rw [e] at h
  have hany : l.any p = true := List.any_eq_true.2 ⟨l[i], List.getElem_mem hi, h⟩
  have : l.findIdx p = i := by
    rw [List.findIdx_eq hi]
    refine ⟨h, fun j hj => ?_⟩
    refine hpre _ ?_
    have hj2 : j < l.length := by omega
    have : (l.take i)[j]'(by simp; omega) = l[j] := List.getElem_take
    rw [← this]
    exact List.getElem_mem _
  simp [idxF, hany, this]

theorem idxF_miss {α : Type} {p : α → Bool} {l : List α} (hpre : ∀ x ∈ l, p x = false) : idxF p l = -1 := by
  have : l.any p = false := List.any_eq_false.2 fun x hx => by simp [hpre x hx]
  simp [idxF, this]

theorem idxF_geq {α : Type} {p : α → Bool} {l : List α} : decide ((0 : Int) ≤ idxF p l) = l.any p := by
  unfold idxF
  cases l.any p <;> simp

theorem take_succ_all {α : Type} [Inhabited α] {p : α → Bool} {l : List α} {i : Nat} (hi : i < l.length) (hpre : ∀ x ∈ l.take i, p x = false) (h : p (l[i]?.getD default) = false) : ∀ x ∈ l.take (i + 1), p x = false := by
  intro x hx
  rw [List.take_add_one] at hx
  rcases List.mem_append.1 hx with hx | hx
  · exact hpre x hx
  · have e : l[i]? = some l[i] := List.getElem?_eq_getElem hi
    rw [e] at hx h
    simp at hx h
    rw [hx]; exact h

theorem mem_getD {α : Type} [Inhabited α] {l : List α} {i : Nat} (hi : i < l.length) : l[i]?.getD default ∈ l := by
  simp [hi]

theorem c129 (l : List Sp) (g : Nat) (caps : List AV) (p : Sp → Bool) (hp : ∀ x ∈ l, Ctr Try.prog g ([SP x] ++ caps) (.bool (p x))) (hl : l.length < 4294967296) :
    Ctr Try.prog 129 [SS l, .clo g [] caps] (.int (idxF p l)) := by
  refine ctr_of_wp hmix Try.func129 m129 rfl ?_
  unfold v129
  simp -failIfUnchanged (disch := first | omega | (simp <;> omega) | fail) only [go_sem, simprocAttr]
  refine wp_loop' Nat (fun i => ⟨[(0, SS l), (1, .clo g [] caps), (7, .int l.length), (8, .int i)], [], [], none⟩) (fun i => i ≤ l.length ∧ ∀ x ∈ l.take i, p x = false) (fun i => l.length - i) 0 (by simp) (by simp -failIfUnchanged (disch := first | omega | (simp <;> omega) | fail) only [go_sem, simprocAttr]; try rfl) ?_
  rintro i ⟨hi, hpre⟩
  simp -failIfUnchanged (disch := first | omega | (simp <;> omega) | fail) only [go_sem, simprocAttr]
  refine wcond_dec (fun h => ?_) (fun h => ?_)
  · simp -failIfUnchanged (disch := first | omega | (simp <;> omega) | fail) only [go_sem, simprocAttr]
    have hlt : i < l.length := by omega
    refine wcall (hp _ (mem_getD hlt)) ?_
    simp -failIfUnchanged (disch := first | omega | (simp <;> omega) | fail) only [go_sem, simprocAttr]
    refine wcond_bool (fun hb => ?_) (fun hb => ?_)
    · simp -failIfUnchanged (disch := first | omega | (simp <;> omega) | fail) only [go_sem, simprocAttr]
      rw [idxF_hit hlt hpre hb]
    · simp -failIfUnchanged (disch := first | omega | (simp <;> omega) | fail) only [go_sem, simprocAttr]
      refine ⟨i + 1, ⟨by omega, take_succ_all hlt hpre hb⟩, by dsimp only; omega, ?_⟩
      simp -failIfUnchanged (disch := first | omega | (simp <;> omega) | fail) only [go_sem, simprocAttr]
      try simp
  · simp -failIfUnchanged (disch := first | omega | (simp <;> omega) | fail) only [go_sem, simprocAttr]
    have e : i = l.length := by omega
    rw [idxF_miss]
    rw [e, List.take_length] at hpre
    exact hpre

theorem c120 (l : List Sp) (g : Nat) (caps : List AV) (p : Sp → Bool) (hp : ∀ x ∈ l, Ctr Try.prog g ([SP x] ++ caps) (.bool (p x))) (hl : l.length < 4294967296) :
    Ctr Try.prog 120 [SS l, .clo g [] caps] (.bool (l.any p)) := by
  refine ctr_of_wp hmix Try.func120 m120 rfl ?_
  unfold v120
  simp -failIfUnchanged (disch := first | omega | (simp <;> omega) | fail) only [go_sem, simprocAttr]
  refine wcall (c129 l g caps p hp hl) ?_
  simp -failIfUnchanged (disch := first | omega | (simp <;> omega) | fail) only [go_sem, simprocAttr]
  rw [idxF_geq]

theorem c121 (l : List (List Sp)) (g : Nat) (caps : List AV) (p : List Sp → Bool) (hp : ∀ x ∈ l, Ctr Try.prog g ([SS x] ++ caps) (.bool (p x))) (hl : l.length < 4294967296) :
    Ctr Try.prog 121 [.sl 1 (l.map SS) .sh, .clo g [] caps] (.int (idxF p l)) := by
  refine ctr_of_wp hmix Try.func121 m121 rfl ?_
  unfold v121
  simp -failIfUnchanged (disch := first | omega | (simp <;> omega) | fail) only [go_sem, simprocAttr]
  refine wp_loop' Nat (fun i => ⟨[(0, .sl 1 (l.map SS) .sh), (1, .clo g [] caps), (7, .int l.length), (8, .int i)], [], [], none⟩) (fun i => i ≤ l.length ∧ ∀ x ∈ l.take i, p x = false) (fun i => l.length - i) 0 (by simp) (by simp -failIfUnchanged (disch := first | omega | (simp <;> omega) | fail) only [go_sem, simprocAttr]; try rfl) ?_
  rintro i ⟨hi, hpre⟩
  simp -failIfUnchanged (disch := first | omega | (simp <;> omega) | fail) only [go_sem, simprocAttr]
  refine wcond_dec (fun h => ?_) (fun h => ?_)
  · simp -failIfUnchanged (disch := first | omega | (simp <;> omega) | fail) only [go_sem, simprocAttr]
    have hlt : i < l.length := by omega
    refine wcall (hp _ (mem_getD hlt)) ?_
    simp -failIfUnchanged (disch := first | omega | (simp <;> omega) | fail) only [go_sem, simprocAttr]
    refine wcond_bool (fun hb => ?_) (fun hb => ?_)
    · simp -failIfUnchanged (disch := first | omega | (simp <;> omega) | fail) only [go_sem, simprocAttr]
      rw [idxF_hit hlt hpre hb]
    · simp -failIfUnchanged (disch := first | omega | (simp <;> omega) | fail) only [go_sem, simprocAttr]
      refine ⟨i + 1, ⟨by omega, take_succ_all hlt hpre hb⟩, by dsimp only; omega, ?_⟩
      simp -failIfUnchanged (disch := first | omega | (simp <;> omega) | fail) only [go_sem, simprocAttr]
      try simp
  · simp -failIfUnchanged (disch := first | omega | (simp <;> omega) | fail) only [go_sem, simprocAttr]
    have e : i = l.length := by omega
    rw [idxF_miss]
    rw [e, List.take_length] at hpre
    exact hpre

theorem c107 (l : List (List Sp)) (g : Nat) (caps : List AV) (p : List Sp → Bool) (hp : ∀ x ∈ l, Ctr Try.prog g ([SS x] ++ caps) (.bool (p x))) (hl : l.length < 4294967296) :
    Ctr Try.prog 107 [.sl 1 (l.map SS) .sh, .clo g [] caps] (.bool (l.any p)) := by
  refine ctr_of_wp hmix Try.func107 m107 rfl ?_
  unfold v107
  simp -failIfUnchanged (disch := first | omega | (simp <;> omega) | fail) only [go_sem, simprocAttr]
  refine wcall (c121 l g caps p hp hl) ?_
  simp -failIfUnchanged (disch := first | omega | (simp <;> omega) | fail) only [go_sem, simprocAttr]
  rw [idxF_geq]

def badS (b : Bk) (s : Sp) : Bool := !within s.lo 0 s.hi || decide (b.base ≤ s.hi)

def isCordB (b : Bk) (l : List Sp) : Bool := decide ((l.length : Int) = b.places) && !l.any (badS b)

def checkB (b : Bk) : Bool := within b.base 2 10 && (within b.places 1 4 && (decide ((b.cords.length : Int) ≤ 4) && (!b.cords.any (fun l => !isCordB b l) && isCordB b b.top)))

structure Small (b : Bk) : Prop where
  cords : b.cords.length < 4294967296
  top : b.top.length < 4294967296
  each : ∀ l ∈ b.cords, l.length < 4294967296

theorem c119 (b : Bk) (s : Sp) : Ctr Try.prog 119 [SP s, .ref 4 [KB b] 0 0] (.bool (badS b s)) := by
  refine ctr_of_wp hmix Try.func119 m119 rfl ?_
  unfold v119
  simp -failIfUnchanged (disch := first | omega | (simp <;> omega) | fail) only [go_sem, simprocAttr]
  refine wcall (c106 _ _ _) ?_
  simp -failIfUnchanged (disch := first | omega | (simp <;> omega) | fail) only [go_sem, simprocAttr]
  refine WGd_bool (fun h => ?_) (fun h => ?_)
  · simp -failIfUnchanged (disch := first | omega | (simp <;> omega) | fail) only [go_sem, simprocAttr, h]
    simp [badS, h]
  · simp -failIfUnchanged (disch := first | omega | (simp <;> omega) | fail) only [go_sem, simprocAttr, h]
    simp only [Bool.not_false] at h
    simp [badS, h]

theorem c105 (b : Bk) (l : List Sp) (hl : l.length < 4294967296) : Ctr Try.prog 105 [KB b, SS l] (.bool (isCordB b l)) := by
  refine ctr_of_wp hmix Try.func105 m105 rfl ?_
  unfold v105
  simp -failIfUnchanged (disch := first | omega | (simp <;> omega) | fail) only [go_sem, simprocAttr]
  refine WGd_bool (fun h => ?_) (fun h => ?_)
  · simp -failIfUnchanged (disch := first | omega | (simp <;> omega) | fail) only [go_sem, simprocAttr, h]
    refine wcall (c120 l 119 _ (badS b) (fun x _ => c119 b x) hl) ?_
    simp -failIfUnchanged (disch := first | omega | (simp <;> omega) | fail) only [go_sem, simprocAttr, h]
    simp [isCordB, h]
  · simp -failIfUnchanged (disch := first | omega | (simp <;> omega) | fail) only [go_sem, simprocAttr, h]
    simp only [Bool.not_true] at h
    simp [isCordB, h]

theorem c104 (b : Bk) (l : List Sp) (hl : l.length < 4294967296) : Ctr Try.prog 104 [SS l, .ref 4 [KB b] 0 0] (.bool (!isCordB b l)) := by
  refine ctr_of_wp hmix Try.func104 m104 rfl ?_
  unfold v104
  simp -failIfUnchanged (disch := first | omega | (simp <;> omega) | fail) only [go_sem, simprocAttr]
  refine wcall (c105 b l hl) ?_
  simp -failIfUnchanged (disch := first | omega | (simp <;> omega) | fail) only [go_sem, simprocAttr]

theorem c81 (b : Bk) (hs : Small b) : Ctr Try.prog 81 [KB b] (.int (if checkB b then 0 else 110)) := by
  refine ctr_of_wp hmix Try.func81 m81 rfl ?_
  unfold v81
  simp -failIfUnchanged (disch := first | omega | (simp <;> omega) | fail) only [go_sem, simprocAttr]
  refine wcall (c106 _ _ _) ?_
  simp -failIfUnchanged (disch := first | omega | (simp <;> omega) | fail) only [go_sem, simprocAttr]
  refine WGd_bool (fun h1 => ?_) (fun h1 => ?_)
  · simp -failIfUnchanged (disch := first | omega | (simp <;> omega) | fail) only [go_sem, simprocAttr, h1]
    refine wcall (c106 _ _ _) ?_
    simp -failIfUnchanged (disch := first | omega | (simp <;> omega) | fail) only [go_sem, simprocAttr]
    refine WGd_bool (fun h2 => ?_) (fun h2 => ?_)
    · simp -failIfUnchanged (disch := first | omega | (simp <;> omega) | fail) only [go_sem, simprocAttr, h2]
      refine WGd_bool (fun h3 => ?_) (fun h3 => ?_)
      · simp -failIfUnchanged (disch := first | omega | (simp <;> omega) | fail) only [go_sem, simprocAttr, h3]
        refine wcall (c107 b.cords 104 _ (fun l => !isCordB b l) (fun x hx => c104 b x (hs.each x hx)) hs.cords) ?_
        simp -failIfUnchanged (disch := first | omega | (simp <;> omega) | fail) only [go_sem, simprocAttr]
        refine WGd_bool (fun h4 => ?_) (fun h4 => ?_)
        · simp -failIfUnchanged (disch := first | omega | (simp <;> omega) | fail) only [go_sem, simprocAttr, h4]
          refine wcall (c104 b b.top hs.top) ?_
          simp -failIfUnchanged (disch := first | omega | (simp <;> omega) | fail) only [go_sem, simprocAttr]
          refine wcond_bool (fun h5 => ?_) (fun h5 => ?_)
          · simp -failIfUnchanged (disch := first | omega | (simp <;> omega) | fail) only [go_sem, simprocAttr]
            simp_all [checkB]
          · simp -failIfUnchanged (disch := first | omega | (simp <;> omega) | fail) only [go_sem, simprocAttr]
            simp_all [checkB]
        · simp -failIfUnchanged (disch := first | omega | (simp <;> omega) | fail) only [go_sem, simprocAttr, h4]
          simp_all [checkB]
          intro ha
          obtain ⟨x, hx, hx2⟩ := h4
          simp [ha x hx] at hx2
      · simp -failIfUnchanged (disch := first | omega | (simp <;> omega) | fail) only [go_sem, simprocAttr, h3]
        simp_all [checkB]
        intro hc
        omega
    · simp -failIfUnchanged (disch := first | omega | (simp <;> omega) | fail) only [go_sem, simprocAttr, h2]
      simp_all [checkB]
  · simp -failIfUnchanged (disch := first | omega | (simp <;> omega) | fail) only [go_sem, simprocAttr, h1]
    simp_all [checkB]

end Go.Proofs.Ytemnojaoickjfaa


/- Cords: numbers, ends (out of knots). -/
set_option linter.unusedSimpArgs false
set_option linter.unusedVariables false
set_option linter.unnecessarySimpa false
namespace Go.Proofs.Ytemnojaoickjfaa
open Go Go.V

def allC (b : Bk) : List (List Sp) := b.cords ++ [b.top]

theorem wsliceF_len {next : AS → Prop} {σ : AS} {d : Option Nat} {sz : Nat} {es : List AV} {m : VM} {n : Int} (h : n = es.length) : WSliceF sz (.sl sz es m) none (some (.int n)) (some (.int n)) d next σ = next (put d (.sl sz es .full) σ) := by
  subst h
  exact wsliceF_all

theorem c118 (b : Bk) (hs : Small b) : Ctr Try.prog 118 [KB b] (.sl 1 ((allC b).map SS) .sh) := by
  refine ctr_of_wp hmix Try.func118 m118 rfl ?_
  unfold v118
  have h1 := hs.cords
  simp -failIfUnchanged (disch := first | omega | (simp <;> omega) | fail) only [go_sem, simprocAttr]
  rw [wsliceF_len (by simp)]
  simp -failIfUnchanged (disch := first | omega | (simp <;> omega) | fail) only [go_sem, simprocAttr]
  simp [allC]

/-- The number of digits, as the machine reckons. -/
def numL (base : Int) (l : List Int) : Int := l.foldl (fun n d => w64 (w64 (n * base) + d)) 0

theorem c128 (base : Int) (l : List Int) (hl : l.length < 4294967296) : Ctr Try.prog 128 [.int base, IS l] (.int (numL base l)) := by
  refine ctr_of_wp hmix Try.func128 m128 rfl ?_
  unfold v128 IS
  simp -failIfUnchanged (disch := first | omega | (simp <;> omega) | fail) only [go_sem, simprocAttr]
  refine wp_loop' (Nat × Int) (fun x => ⟨[(0, .int base), (5, .int x.2), (8, IS l), (9, .int l.length), (10, .int x.1)], [], [], none⟩) (fun x => x.1 ≤ l.length ∧ x.2 = numL base (l.take x.1)) (fun x => l.length - x.1) (0, 0) (by simp [numL]) (by unfold IS; simp -failIfUnchanged (disch := first | omega | (simp <;> omega) | fail) only [go_sem, simprocAttr]; try simp) ?_
  rintro ⟨i, n⟩ ⟨hi, hn⟩
  dsimp only at hi hn ⊢
  unfold IS
  simp -failIfUnchanged (disch := first | omega | (simp <;> omega) | fail) only [go_sem, simprocAttr]
  refine wcond_dec (fun h => ?_) (fun h => ?_)
  · simp -failIfUnchanged (disch := first | omega | (simp <;> omega) | fail) only [go_sem, simprocAttr]
    have hlt : i < l.length := by omega
    refine ⟨(i + 1, numL base (l.take (i + 1))), ⟨by omega, rfl⟩, by dsimp only; omega, ?_⟩
    have e : numL base (l.take (i + 1)) = w64 (w64 (n * base) + l[i]?.getD default) := by
      rw [hn]
      unfold numL
      rw [List.take_add_one, List.getElem?_eq_getElem hlt, List.foldl_append]
      rfl
    rw [e]
    simp -failIfUnchanged (disch := first | omega | (simp <;> omega) | fail) only [go_sem, simprocAttr]
    try simp
  · simp -failIfUnchanged (disch := first | omega | (simp <;> omega) | fail) only [go_sem, simprocAttr]
    have e : i = l.length := by omega
    rw [hn, e, List.take_length]

/-- What is right of a valid book. -/
structure Val (b : Bk) : Prop where
  hb : 2 ≤ b.base ∧ b.base ≤ 10
  hp : 1 ≤ b.places ∧ b.places ≤ 4
  hc : b.cords.length ≤ 4
  cord : ∀ l ∈ b.cords, (l.length : Int) = b.places ∧ ∀ s ∈ l, 0 ≤ s.lo ∧ s.lo ≤ s.hi ∧ s.hi < b.base
  top : (b.top.length : Int) = b.places ∧ ∀ s ∈ b.top, 0 ≤ s.lo ∧ s.lo ≤ s.hi ∧ s.hi < b.base

theorem val_of_check {b : Bk} (h : checkB b = true) : Val b := by
  simp only [checkB, within, isCordB, Bool.and_eq_true, decide_eq_true_eq, Bool.not_eq_true', List.any_eq_false, Bool.not_eq_true, Bool.not_eq_false'] at h
  obtain ⟨h1, h2, h3, h4, h5, h6⟩ := h
  have key : ∀ s : Sp, badS b s = false → 0 ≤ s.lo ∧ s.lo ≤ s.hi ∧ s.hi < b.base := by
    intro s hs
    simp only [badS, within, Bool.or_eq_false_iff, Bool.not_eq_false', decide_eq_true_eq, decide_eq_false_iff_not] at hs
    omega
  refine ⟨h1, h2, by omega, fun l hl => ?_, h5, fun s hs => key s (by simpa using h6 s hs)⟩
  have := h4 l hl
  simp only [Bool.and_eq_false_iff, decide_eq_false_iff_not, not_or, Decidable.not_not, Bool.not_eq_false', Bool.not_eq_true, List.any_eq_false] at this
  obtain ⟨k1, k2⟩ := this
  exact ⟨k1, fun s hs => key s (by simpa using k2 s hs)⟩

theorem c115 (b : Bk) (hs : Small b) (is : Bool) : Ctr Try.prog 115 [KB b, .bool is] (.int (if checkB b then if is then 0 else 1 else 110)) := by
  refine ctr_of_wp hmix Try.func115 m115 rfl ?_
  unfold v115
  simp -failIfUnchanged (disch := first | omega | (simp <;> omega) | fail) only [go_sem, simprocAttr]
  refine wcall (c81 b hs) ?_
  cases hc : checkB b with
  | false => simp -failIfUnchanged (disch := first | omega | (simp <;> omega) | fail) only [go_sem, simprocAttr]
  | true =>
    cases is with
    | false => simp -failIfUnchanged (disch := first | omega | (simp <;> omega) | fail) only [go_sem, simprocAttr]
    | true => simp -failIfUnchanged (disch := first | omega | (simp <;> omega) | fail) only [go_sem, simprocAttr]

def endsL (base : Int) (l : List Sp) : Sp := l.foldl (fun o s => ⟨numL base [o.lo, s.lo], numL base [o.hi, s.hi]⟩) ⟨0, 0⟩

theorem c117 (base : Int) (l : List Sp) (hl : l.length < 4294967296) : Ctr Try.prog 117 [.int base, SS l] (SP (endsL base l)) := by
  refine ctr_of_wp hmix Try.func117 m117 rfl ?_
  unfold v117
  simp -failIfUnchanged (disch := first | omega | (simp <;> omega) | fail) only [go_sem, simprocAttr]
  refine wp_loop' (Nat × Sp) (fun x => ⟨[(0, .int base), (4, .ptr 4 0), (5, .ptr 5 0), (8, SS l), (9, .int l.length), (10, .int x.1)], [(5, ⟨[.int x.2.lo, .int x.2.hi], false⟩), (4, ⟨[.int 0, .int 0], false⟩)], [], none⟩) (fun x => x.1 ≤ l.length ∧ x.2 = endsL base (l.take x.1)) (fun x => l.length - x.1) (0, ⟨0, 0⟩) (by simp [endsL]) (by simp -failIfUnchanged (disch := first | omega | (simp <;> omega) | fail) only [go_sem, simprocAttr]; try simp) ?_
  rintro ⟨i, o⟩ ⟨hi, ho⟩
  dsimp only at hi ho ⊢
  simp -failIfUnchanged (disch := first | omega | (simp <;> omega) | fail) only [go_sem, simprocAttr]
  refine wcond_dec (fun h => ?_) (fun h => ?_)
  · have hlt : i < l.length := by omega
    obtain ⟨s, hsp⟩ : ∃ s, l[i]?.getD default = s := ⟨_, rfl⟩
    simp -failIfUnchanged (disch := first | omega | (simp <;> omega) | fail) only [go_sem, simprocAttr, hsp]
    refine wcall (c128 base [o.lo, s.lo] (by simp)) ?_
    simp -failIfUnchanged (disch := first | omega | (simp <;> omega) | fail) only [go_sem, simprocAttr]
    refine wcall (c128 base [o.hi, s.hi] (by simp)) ?_
    simp -failIfUnchanged (disch := first | omega | (simp <;> omega) | fail) only [go_sem, simprocAttr]
    have e : endsL base (l.take (i + 1)) = ⟨numL base [o.lo, s.lo], numL base [o.hi, s.hi]⟩ := by
      rw [List.take_add_one, List.getElem?_eq_getElem hlt, endsL, List.foldl_append]
      have : l[i] = s := by rw [← hsp]; simp [hlt]
      simp only [Option.toList_some, List.foldl_cons, List.foldl_nil, this]
      rw [show List.foldl _ _ (l.take i) = endsL base (l.take i) from rfl, ← ho]
    refine ⟨(i + 1, ⟨numL base [o.lo, s.lo], numL base [o.hi, s.hi]⟩), ⟨by dsimp only; omega, e.symm⟩, by dsimp only; omega, ?_⟩
    simp -failIfUnchanged (disch := first | omega | (simp <;> omega) | fail) only [go_sem, simprocAttr]
    try simp
  · simp -failIfUnchanged (disch := first | omega | (simp <;> omega) | fail) only [go_sem, simprocAttr]
    have e : i = l.length := by omega
    rw [ho, e, List.take_length]

theorem allC_small {b : Bk} (hs : Small b) : ∀ l ∈ allC b, l.length < 4294967296 := by
  intro l hl
  rcases List.mem_append.1 hl with h | h
  · exact hs.each l h
  · simp at h; subst h; exact hs.top

theorem c103 (b : Bk) (hs : Small b) (c : Int) : Ctr Try.prog 103 [KB b, .int c]
    (if checkB b then
      if within c 0 b.cords.length then .tup [SP (endsL b.base ((allC b)[c.toNat]?.getD default)), .int 0] else .tup [SP ⟨0, 0⟩, .int 1]
    else .tup [SP ⟨0, 0⟩, .int 110]) := by
  refine ctr_of_wp hmix Try.func103 m103 rfl ?_
  unfold v103
  simp -failIfUnchanged (disch := first | omega | (simp <;> omega) | fail) only [go_sem, simprocAttr]
  refine wcall (c116 b c) ?_
  simp -failIfUnchanged (disch := first | omega | (simp <;> omega) | fail) only [go_sem, simprocAttr]
  refine wcall (c115 b hs _) ?_
  cases hc : checkB b with
  | false => simp -failIfUnchanged (disch := first | omega | (simp <;> omega) | fail) only [go_sem, simprocAttr]
  | true =>
    cases h1 : within c 0 b.cords.length with
    | false => simp -failIfUnchanged (disch := first | omega | (simp <;> omega) | fail) only [go_sem, simprocAttr]
    | true =>
      have h1' : 0 ≤ c ∧ c ≤ b.cords.length := by simpa [within] using h1
      obtain ⟨m, rfl⟩ : ∃ m : Nat, c = m := ⟨c.toNat, by omega⟩
      have hal : (allC b).length = b.cords.length + 1 := by simp [allC]
      simp -failIfUnchanged (disch := first | omega | (simp <;> omega) | fail) only [go_sem, simprocAttr]
      refine wcall (c118 b hs) ?_
      have hmem := allC_small hs _ (mem_getD (l := allC b) (i := m) (by omega))
      obtain ⟨l, hl⟩ : ∃ l, (allC b)[m]?.getD default = l := ⟨_, rfl⟩
      rw [hl] at hmem
      simp -failIfUnchanged (disch := first | omega | (simp <;> omega) | fail) only [go_sem, simprocAttr, hl]
      refine wcall (c117 b.base l hmem) ?_
      simp -failIfUnchanged (disch := first | omega | (simp <;> omega) | fail) only [go_sem, simprocAttr]

end Go.Proofs.Ytemnojaoickjfaa


/- The document on cords (out of knots). -/
set_option linter.unusedSimpArgs false
set_option linter.unusedVariables false
set_option linter.unnecessarySimpa false
namespace Go.Proofs.Ytemnojaoickjfaa
open Go Go.V

theorem c33 (n lo hi : Int) : Ctr Try.prog 33 [.int n, .int lo, .int hi] (.bool (within n lo hi)) := by
  refine ctr_of_wp hmix Try.func33 m33 rfl ?_
  unfold v33
  simp -failIfUnchanged (disch := first | omega | (simp <;> omega) | fail) only [go_sem, simprocAttr]
  refine WGd_bool (fun h => ?_) (fun h => ?_)
  · simp -failIfUnchanged (disch := first | omega | (simp <;> omega) | fail) only [go_sem, simprocAttr, h]
    simp only [decide_eq_true_eq] at h
    simp [within, h]
  · simp -failIfUnchanged (disch := first | omega | (simp <;> omega) | fail) only [go_sem, simprocAttr, h]
    simp only [Bool.not_true, decide_eq_false_iff_not] at h
    simp [within, h]

theorem c122 (n lo hi : Int) : Ctr Try.prog 122 [.int n, .int lo, .int hi] (.bool (within n lo hi)) := by
  refine ctr_of_wp hmix Try.func122 m122 rfl ?_
  unfold v122
  simp -failIfUnchanged (disch := first | omega | (simp <;> omega) | fail) only [go_sem, simprocAttr]
  refine wcall (c33 _ _ _) ?_
  simp -failIfUnchanged (disch := first | omega | (simp <;> omega) | fail) only [go_sem, simprocAttr]

theorem c125 (b : Bk) (n : Int) : Ctr Try.prog 125 [KB b, .int n] (.bool (within n 0 b.cords.length)) := by
  refine ctr_of_wp hmix Try.func125 m125 rfl ?_
  unfold v125
  simp -failIfUnchanged (disch := first | omega | (simp <;> omega) | fail) only [go_sem, simprocAttr]
  refine wcall (c122 _ _ _) ?_
  simp -failIfUnchanged (disch := first | omega | (simp <;> omega) | fail) only [go_sem, simprocAttr]

theorem badS_iff (b : Bk) (s : Sp) : badS b s = false ↔ within s.hi 0 (b.base - 1) = true ∧ within s.lo 0 s.hi = true := by
  simp only [badS, within, Bool.or_eq_false_iff, Bool.not_eq_false', decide_eq_true_eq, decide_eq_false_iff_not]
  omega

theorem c123 (b : Bk) (l : List Sp) (hb : 2 ≤ b.base ∧ b.base ≤ 10) (hl : l.length < 4294967296) : Ctr Try.prog 123 [KB b, SS l] (.bool (isCordB b l)) := by
  refine ctr_of_wp hmix Try.func123 m123 rfl ?_
  unfold v123
  simp -failIfUnchanged (disch := first | omega | (simp <;> omega) | fail) only [go_sem, simprocAttr]
  refine wcond_dec (fun h => ?_) (fun h => ?_)
  · simp -failIfUnchanged (disch := first | omega | (simp <;> omega) | fail) only [go_sem, simprocAttr]
    simp [isCordB, h]
  · simp only [Decidable.not_not] at h
    simp -failIfUnchanged (disch := first | omega | (simp <;> omega) | fail) only [go_sem, simprocAttr]
    refine wp_loop' Nat (fun i => ⟨[(1, SS l), (2, .ptr 2 0), (5, .int i)], [(2, ⟨[.int b.base, .int b.places, .sl 1 (b.cords.map SS) .sh, SS b.top], false⟩)], [], none⟩) (fun i => i ≤ l.length ∧ ∀ x ∈ l.take i, badS b x = false) (fun i => l.length - i) 0 (by simp) (by simp -failIfUnchanged (disch := first | omega | (simp <;> omega) | fail) only [go_sem, simprocAttr]; try rfl) ?_
    rintro i ⟨hi, hpre⟩
    simp -failIfUnchanged (disch := first | omega | (simp <;> omega) | fail) only [go_sem, simprocAttr]
    refine wcond_dec (fun h2 => ?_) (fun h2 => ?_)
    · have hlt : i < l.length := by omega
      simp -failIfUnchanged (disch := first | omega | (simp <;> omega) | fail) only [go_sem, simprocAttr]
      refine wcall (c122 _ _ _) ?_
      simp -failIfUnchanged (disch := first | omega | (simp <;> omega) | fail) only [go_sem, simprocAttr]
      have no : badS b (l[i]?.getD default) = true → isCordB b l = false := by
        intro hx
        have : l.any (badS b) = true := List.any_eq_true.2 ⟨_, mem_getD hlt, hx⟩
        simp [isCordB, this]
      refine WGd_bool (fun h3 => ?_) (fun h3 => ?_)
      · simp -failIfUnchanged (disch := first | omega | (simp <;> omega) | fail) only [go_sem, simprocAttr, h3]
        refine wcall (c122 _ _ _) ?_
        simp -failIfUnchanged (disch := first | omega | (simp <;> omega) | fail) only [go_sem, simprocAttr]
        refine wcond_bool (fun h4 => ?_) (fun h4 => ?_)
        · simp -failIfUnchanged (disch := first | omega | (simp <;> omega) | fail) only [go_sem, simprocAttr]
          rw [no]
          cases hx : badS b (l[i]?.getD default) with
          | true => rfl
          | false => rw [badS_iff] at hx; simp [hx.2] at h4
        · simp -failIfUnchanged (disch := first | omega | (simp <;> omega) | fail) only [go_sem, simprocAttr]
          have hx : badS b (l[i]?.getD default) = false := by
            rw [badS_iff]
            simpa using And.intro h3 h4
          refine ⟨i + 1, ⟨by omega, take_succ_all hlt hpre hx⟩, by dsimp only; omega, ?_⟩
          simp -failIfUnchanged (disch := first | omega | (simp <;> omega) | fail) only [go_sem, simprocAttr]
          try simp
      · simp -failIfUnchanged (disch := first | omega | (simp <;> omega) | fail) only [go_sem, simprocAttr, h3]
        rw [no]
        cases hx : badS b (l[i]?.getD default) with
        | true => rfl
        | false => rw [badS_iff] at hx; simp [hx.1] at h3
    · simp -failIfUnchanged (disch := first | omega | (simp <;> omega) | fail) only [go_sem, simprocAttr]
      have e : i = l.length := by omega
      rw [e, List.take_length] at hpre
      have : l.any (badS b) = false := List.any_eq_false.2 fun x hx => by simp [hpre x hx]
      simp [isCordB, this, h]

theorem c109 (b : Bk) (hs : Small b) : Ctr Try.prog 109 [KB b] (.int (if checkB b then 0 else 110)) := by
  refine ctr_of_wp hmix Try.func109 m109 rfl ?_
  unfold v109
  simp -failIfUnchanged (disch := first | omega | (simp <;> omega) | fail) only [go_sem, simprocAttr]
  refine wcall (c122 _ _ _) ?_
  simp -failIfUnchanged (disch := first | omega | (simp <;> omega) | fail) only [go_sem, simprocAttr]
  refine WGd_bool (fun h1 => ?_) (fun h1 => ?_)
  · simp -failIfUnchanged (disch := first | omega | (simp <;> omega) | fail) only [go_sem, simprocAttr, h1]
    have hb : 2 ≤ b.base ∧ b.base ≤ 10 := by simpa [within] using h1
    refine wcall (c122 _ _ _) ?_
    simp -failIfUnchanged (disch := first | omega | (simp <;> omega) | fail) only [go_sem, simprocAttr]
    refine WGd_bool (fun h2 => ?_) (fun h2 => ?_)
    · simp -failIfUnchanged (disch := first | omega | (simp <;> omega) | fail) only [go_sem, simprocAttr, h2]
      refine WGd_bool (fun h3 => ?_) (fun h3 => ?_)
      · simp -failIfUnchanged (disch := first | omega | (simp <;> omega) | fail) only [go_sem, simprocAttr, h3]
        refine wcall (c123 b b.top hb hs.top) ?_
        simp -failIfUnchanged (disch := first | omega | (simp <;> omega) | fail) only [go_sem, simprocAttr]
        refine wcond_bool (fun h4 => ?_) (fun h4 => ?_)
        · simp -failIfUnchanged (disch := first | omega | (simp <;> omega) | fail) only [go_sem, simprocAttr]
          simp_all [checkB]
        · simp -failIfUnchanged (disch := first | omega | (simp <;> omega) | fail) only [go_sem, simprocAttr]
          refine wp_loop' Nat (fun i => ⟨[(1, .ptr 1 0), (3, .int i)], [(1, ⟨[.int b.base, .int b.places, .sl 1 (b.cords.map SS) .sh, SS b.top], false⟩)], [], none⟩) (fun i => i ≤ b.cords.length ∧ ∀ x ∈ b.cords.take i, (!isCordB b x) = false) (fun i => b.cords.length - i) 0 (by simp) (by simp -failIfUnchanged (disch := first | omega | (simp <;> omega) | fail) only [go_sem, simprocAttr]; try rfl) ?_
          rintro i ⟨hi, hpre⟩
          have hcl := hs.cords
          simp -failIfUnchanged (disch := first | omega | (simp <;> omega) | fail) only [go_sem, simprocAttr]
          refine wcond_dec (fun h5 => ?_) (fun h5 => ?_)
          · have hlt : i < b.cords.length := by omega
            simp -failIfUnchanged (disch := first | omega | (simp <;> omega) | fail) only [go_sem, simprocAttr]
            refine wcall (c123 b _ hb (hs.each _ (mem_getD hlt))) ?_
            simp -failIfUnchanged (disch := first | omega | (simp <;> omega) | fail) only [go_sem, simprocAttr]
            refine wcond_bool (fun h6 => ?_) (fun h6 => ?_)
            · simp -failIfUnchanged (disch := first | omega | (simp <;> omega) | fail) only [go_sem, simprocAttr]
              have : b.cords.any (fun l => !isCordB b l) = true := List.any_eq_true.2 ⟨_, mem_getD hlt, h6⟩
              have hc : checkB b = false := by
                simp only [checkB, this]
                simp
              simp [hc]
            · simp -failIfUnchanged (disch := first | omega | (simp <;> omega) | fail) only [go_sem, simprocAttr]
              refine ⟨i + 1, ⟨by omega, take_succ_all (p := fun x => !isCordB b x) hlt hpre h6⟩, by dsimp only; omega, ?_⟩
              simp -failIfUnchanged (disch := first | omega | (simp <;> omega) | fail) only [go_sem, simprocAttr]
              try simp
          · simp -failIfUnchanged (disch := first | omega | (simp <;> omega) | fail) only [go_sem, simprocAttr]
            have e : i = b.cords.length := by omega
            rw [e, List.take_length] at hpre
            have : b.cords.any (fun l => !isCordB b l) = false := List.any_eq_false.2 fun x hx => by simp [hpre x hx]
            have hc : checkB b = true := by
              simp only [checkB, this]
              simp at h1 h2 h3 h4
              simp [h1, h2, h3, h4]
            simp [hc]
      · simp -failIfUnchanged (disch := first | omega | (simp <;> omega) | fail) only [go_sem, simprocAttr, h3]
        simp_all [checkB]
        intro hc
        omega
    · simp -failIfUnchanged (disch := first | omega | (simp <;> omega) | fail) only [go_sem, simprocAttr, h2]
      simp_all [checkB]
  · simp -failIfUnchanged (disch := first | omega | (simp <;> omega) | fail) only [go_sem, simprocAttr, h1]
    simp_all [checkB]

theorem c124 (b : Bk) (hs : Small b) (is : Bool) : Ctr Try.prog 124 [KB b, .bool is] (.int (if checkB b then if is then 0 else 1 else 110)) := by
  refine ctr_of_wp hmix Try.func124 m124 rfl ?_
  unfold v124
  simp -failIfUnchanged (disch := first | omega | (simp <;> omega) | fail) only [go_sem, simprocAttr]
  refine wcall (c109 b hs) ?_
  cases hc : checkB b with
  | false => simp -failIfUnchanged (disch := first | omega | (simp <;> omega) | fail) only [go_sem, simprocAttr]
  | true =>
    cases is with
    | false => simp -failIfUnchanged (disch := first | omega | (simp <;> omega) | fail) only [go_sem, simprocAttr]
    | true => simp -failIfUnchanged (disch := first | omega | (simp <;> omega) | fail) only [go_sem, simprocAttr]

theorem c127 (b : Bk) (l : List Int) (hl : l.length < 4294967296) : Ctr Try.prog 127 [KB b, IS l] (.int (numL b.base l)) := by
  refine ctr_of_wp hmix Try.func127 m127 rfl ?_
  unfold v127 IS
  simp -failIfUnchanged (disch := first | omega | (simp <;> omega) | fail) only [go_sem, simprocAttr]
  refine wp_loop' (Nat × Int) (fun x => ⟨[(1, IS l), (2, .ptr 2 0), (5, .int x.2), (6, .int x.1)], [(2, ⟨[.int b.base, .int b.places, .sl 1 (b.cords.map SS) .sh, SS b.top], false⟩)], [], none⟩) (fun x => x.1 ≤ l.length ∧ x.2 = numL b.base (l.take x.1)) (fun x => l.length - x.1) (0, 0) (by simp [numL]) (by unfold IS; simp -failIfUnchanged (disch := first | omega | (simp <;> omega) | fail) only [go_sem, simprocAttr]; try simp) ?_
  rintro ⟨i, n⟩ ⟨hi, hn⟩
  dsimp only at hi hn ⊢
  unfold IS
  simp -failIfUnchanged (disch := first | omega | (simp <;> omega) | fail) only [go_sem, simprocAttr]
  refine wcond_dec (fun h => ?_) (fun h => ?_)
  · have hlt : i < l.length := by omega
    simp -failIfUnchanged (disch := first | omega | (simp <;> omega) | fail) only [go_sem, simprocAttr]
    refine ⟨(i + 1, numL b.base (l.take (i + 1))), ⟨by omega, rfl⟩, by dsimp only; omega, ?_⟩
    have e : numL b.base (l.take (i + 1)) = w64 (w64 (n * b.base) + l[i]?.getD default) := by
      rw [hn]
      unfold numL
      rw [List.take_add_one, List.getElem?_eq_getElem hlt, List.foldl_append]
      rfl
    rw [e]
    simp -failIfUnchanged (disch := first | omega | (simp <;> omega) | fail) only [go_sem, simprocAttr]
    try simp
  · simp -failIfUnchanged (disch := first | omega | (simp <;> omega) | fail) only [go_sem, simprocAttr]
    have e : i = l.length := by omega
    rw [hn, e, List.take_length]

/-- The cord, the top one too. -/
def cordAt (b : Bk) (n : Nat) : List Sp := if n = b.cords.length then b.top else b.cords[n]?.getD default

theorem c126 (b : Bk) (n : Nat) (hn : n ≤ b.cords.length) : Ctr Try.prog 126 [KB b, .int n] (SS (cordAt b n)) := by
  refine ctr_of_wp hmix Try.func126 m126 rfl ?_
  unfold v126
  simp -failIfUnchanged (disch := first | omega | (simp <;> omega) | fail) only [go_sem, simprocAttr]
  refine wcond_dec (fun h => ?_) (fun h => ?_)
  · simp -failIfUnchanged (disch := first | omega | (simp <;> omega) | fail) only [go_sem, simprocAttr]
    have e : n = b.cords.length := by omega
    simp [cordAt, e]
  · have e : ¬ n = b.cords.length := by omega
    have hlt : n < b.cords.length := by omega
    simp -failIfUnchanged (disch := first | omega | (simp <;> omega) | fail) only [go_sem, simprocAttr]
    simp [cordAt, e]

theorem cordAt_val {b : Bk} (hv : Val b) {n : Nat} (hn : n ≤ b.cords.length) : ((cordAt b n).length : Int) = b.places ∧ ∀ s ∈ cordAt b n, 0 ≤ s.lo ∧ s.lo ≤ s.hi ∧ s.hi < b.base := by
  unfold cordAt
  split
  · exact hv.top
  · have hlt : n < b.cords.length := by omega
    exact hv.cord _ (mem_getD hlt)

theorem numL2 (base : Int) (l : List Int) (x : Int) : numL base (l ++ [x]) = numL base [numL base l, x] := by
  unfold numL
  rw [List.foldl_append]
  simp only [List.foldl_cons, List.foldl_nil, Int.zero_mul, Int.zero_add]
  generalize List.foldl (fun n d => w64 (w64 (n * base) + d)) 0 l = y
  have : ∀ z : Int, w64 (w64 (w64 (w64 0 + z) * base) + x) = w64 (w64 (z * base) + x) := by
    intro z
    have h0 : w64 0 = 0 := by decide
    rw [h0, Int.zero_add]
    have e1 : w64 (w64 z * base) = w64 (z * base) := by
      have h1 : ∀ a b : Int, a % 18446744073709551616 = b % 18446744073709551616 → w64 a = w64 b := by
        intro a b h
        rw [w64_eq, w64_eq, h]
      apply h1
      have h2 : ∀ a : Int, w64 a % 18446744073709551616 = a % 18446744073709551616 := by
        intro a
        rw [w64_eq]
        simp only [Bool.true_and, decide_eq_true_eq]
        split <;> omega
      rw [Int.mul_emod, h2, ← Int.mul_emod]
    rw [e1]
  exact (this y).symm

/-- The ends of a cord by the lists of its least and of its greatest digits. -/
theorem ends_num (base : Int) (l : List Sp) : endsL base l = ⟨numL base (l.map fun s => s.lo), numL base (l.map fun s => s.hi)⟩ := by
  have key : ∀ (l : List Sp) (a b : List Int), l.foldl (fun o s => (⟨numL base [o.lo, s.lo], numL base [o.hi, s.hi]⟩ : Sp)) ⟨numL base a, numL base b⟩ = ⟨numL base (a ++ l.map fun s => s.lo), numL base (b ++ l.map fun s => s.hi)⟩ := by
    intro l
    induction l with
    | nil => intro a b; simp
    | cons s r ih =>
      intro a b
      simp only [List.foldl_cons]
      rw [← numL2, ← numL2, ih]
      simp
  have := key l [] []
  simpa [endsL, numL] using this

theorem c112 (b : Bk) (hs : Small b) (c : Int) : Ctr Try.prog 112 [KB b, .int c]
    (if checkB b then
      if within c 0 b.cords.length then .tup [SP (endsL b.base (cordAt b c.toNat)), .int 0] else .tup [SP ⟨0, 0⟩, .int 1]
    else .tup [SP ⟨0, 0⟩, .int 110]) := by
  refine ctr_of_wp hmix Try.func112 m112 rfl ?_
  unfold v112
  simp -failIfUnchanged (disch := first | omega | (simp <;> omega) | fail) only [go_sem, simprocAttr]
  refine wcall (c125 b c) ?_
  simp -failIfUnchanged (disch := first | omega | (simp <;> omega) | fail) only [go_sem, simprocAttr]
  refine wcall (c124 b hs _) ?_
  cases hc : checkB b with
  | false => simp -failIfUnchanged (disch := first | omega | (simp <;> omega) | fail) only [go_sem, simprocAttr]
  | true =>
    cases h1 : within c 0 b.cords.length with
    | false => simp -failIfUnchanged (disch := first | omega | (simp <;> omega) | fail) only [go_sem, simprocAttr]
    | true =>
      have hv := val_of_check hc
      have h1' : 0 ≤ c ∧ c ≤ b.cords.length := by simpa [within] using h1
      obtain ⟨m, rfl⟩ : ∃ m : Nat, c = m := ⟨c.toNat, by omega⟩
      have hp := hv.hp
      have hlen := (cordAt_val hv (n := m) (by omega)).1
      simp -failIfUnchanged (disch := first | omega | (simp <;> omega) | fail) only [go_sem, simprocAttr]
      refine wcall (c126 b m (by omega)) ?_
      rw [ends_num]
      generalize cordAt b m = l at hlen
      simp -failIfUnchanged (disch := first | omega | (simp <;> omega) | fail) only [go_sem, simprocAttr]
      refine wp_loop' Nat (fun i => ⟨[(2, .ptr 2 0), (4, .ptr 4 0), (7, SS l), (8, .sl 1 (((l.take i).map fun s => s.lo).map .int) (.own 8)), (9, .sl 1 (((l.take i).map fun s => s.hi).map .int) (.own 9)), (10, .int i)],
        [(4, ⟨[.int 0, .int 0], false⟩), (2, ⟨[.int b.base, .int b.places, .sl 1 (b.cords.map SS) .sh, SS b.top], false⟩)], [(9, i), (8, i)], none⟩) (fun i => i ≤ l.length) (fun i => l.length - i) 0 (by simp) (by simp -failIfUnchanged (disch := first | omega | (simp <;> omega) | fail) only [go_sem, simprocAttr]; try simp) ?_
      intro i hi
      have hmin : min i l.length = i := by omega
      simp -failIfUnchanged (disch := first | omega | (simp <;> omega) | fail) only [go_sem, simprocAttr]
      refine wcond_dec (fun h => ?_) (fun h => ?_)
      · have hlt : i < l.length := by omega
        obtain ⟨s, hsp⟩ : ∃ s, l[i]?.getD default = s := ⟨_, rfl⟩
        have et : l.take (i + 1) = l.take i ++ [s] := by
          rw [List.take_add_one, List.getElem?_eq_getElem hlt, ← hsp]
          simp [hlt]
        have hl1 : (l.take i).length = i := by rw [List.length_take]; exact hmin
        generalize hx : l.take i = xs at hl1
        simp -failIfUnchanged (disch := first | omega | (simp <;> omega) | fail) only [go_sem, simprocAttr, hsp]
        refine ⟨hl1.symm, hl1.symm, ?_⟩
        refine ⟨i + 1, by omega, by dsimp only; omega, ?_⟩
        dsimp only
        rw [et]
        simp -failIfUnchanged (disch := first | omega | (simp <;> omega) | fail) only [go_sem, simprocAttr]
        simp [← hx, List.map_take, hmin]
      · simp -failIfUnchanged (disch := first | omega | (simp <;> omega) | fail) only [go_sem, simprocAttr]
        have e : i = l.length := by omega
        subst e
        rw [List.take_length]
        refine wcall (c127 b (l.map fun s => s.lo) (by simp; omega)) ?_
        simp -failIfUnchanged (disch := first | omega | (simp <;> omega) | fail) only [go_sem, simprocAttr]
        refine wcall (c127 b (l.map fun s => s.hi) (by simp; omega)) ?_
        simp -failIfUnchanged (disch := first | omega | (simp <;> omega) | fail) only [go_sem, simprocAttr]

end Go.Proofs.Ytemnojaoickjfaa


/- Books of fines; what is an entry. -/
set_option linter.unusedSimpArgs false
set_option linter.unusedVariables false
set_option linter.unnecessarySimpa false
namespace Go.Proofs.Ytemnojaoickjfaa
open Go Go.V

/-- Entries, books, pairs. -/
structure En where
  day : Int
  who : Int
  cord : List Sp
  deriving Inhabited, DecidableEq
structure FB where
  base : Int
  places : Int
  persons : Int
  late : Int
  ones : List En
  others : List En
  deriving Inhabited, DecidableEq
structure Pa where
  one : Int
  other : Int
  deriving Inhabited, DecidableEq
abbrev EN (e : En) : AV := .agg [.int e.day, .int e.who, SS e.cord]
abbrev ES (l : List En) : AV := .sl 3 (l.map EN) .sh
abbrev FK (b : FB) : AV := .agg [.int b.base, .int b.places, .int b.persons, .int b.late, ES b.ones, ES b.others]
abbrev PA (p : Pa) : AV := .agg [.int p.one, .int p.other]
abbrev PS (l : List Pa) : AV := .sl 2 (l.map PA) .sh

theorem c71 (n lo hi : Int) : Ctr Try.prog 71 [.int n, .int lo, .int hi] (.bool (within n lo hi)) := by
  refine ctr_of_wp hmix Try.func71 m71 rfl ?_
  unfold v71
  simp -failIfUnchanged (disch := first | omega | (simp <;> omega) | fail) only [go_sem, simprocAttr]
  refine WGd_bool (fun h => ?_) (fun h => ?_)
  · simp -failIfUnchanged (disch := first | omega | (simp <;> omega) | fail) only [go_sem, simprocAttr, h]
    simp only [decide_eq_true_eq] at h
    simp [within, h]
  · simp -failIfUnchanged (disch := first | omega | (simp <;> omega) | fail) only [go_sem, simprocAttr, h]
    simp only [Bool.not_true, decide_eq_false_iff_not] at h
    simp [within, h]

theorem c77 (n lo hi : Int) : Ctr Try.prog 77 [.int n, .int lo, .int hi] (.bool (within n lo hi)) := by
  refine ctr_of_wp hmix Try.func77 m77 rfl ?_
  unfold v77
  simp -failIfUnchanged (disch := first | omega | (simp <;> omega) | fail) only [go_sem, simprocAttr]
  refine wcall (c33 n lo hi) ?_
  simp -failIfUnchanged (disch := first | omega | (simp <;> omega) | fail) only [go_sem, simprocAttr]

/-- The book of knots of some cords. -/
def zsN (b : FB) : List Sp := List.replicate (min (max 0 b.places) 4).toNat ⟨0, 0⟩
abbrev ktd (b : FB) (cs : List (List Sp)) : Bk := ⟨b.base, b.places, cs, zsN b⟩

theorem zeros_len2 (k : Nat) : (zeros [AV.int 0, AV.int 0] k).length = k * 2 := by
  induction k with
  | zero => rfl
  | succ k ih => rw [zeros, List.length_append, ih]; simp only [List.length_cons, List.length_nil]; omega
theorem strip_zeros {hp : List (Nat × BX)} (k : Nat) : (zeros [AV.int 0, AV.int 0] k).map (strip hp) = zeros [AV.int 0, AV.int 0] k := by
  induction k with
  | zero => rfl
  | succ k ih => rw [zeros, List.map_append, ih]; rfl
theorem chunks_z (k : Nat) : ∀ pre : List AV, chunks true 2 (pre ++ zeros [AV.int 0, AV.int 0] k) pre.length k = (List.replicate k (⟨0, 0⟩ : Sp)).map SP := by
  induction k with
  | zero => intro pre; rfl
  | succ k ih =>
    intro pre
    rw [chunks, List.replicate_succ, List.map_cons, zeros]
    have h := ih (pre ++ [AV.int 0, AV.int 0])
    rw [List.append_assoc] at h
    have e : (pre ++ [AV.int 0, AV.int 0]).length = pre.length + 2 := by simp
    rw [e] at h
    rw [h]
    congr 1
    simp [chunk]

theorem c82 (b : FB) (cs : List (List Sp)) : Ctr Try.prog 82 [FK b, .sl 1 (cs.map SS) .sh] (KB (ktd b cs)) := by
  refine ctr_of_wp hmix Try.func82 m82 rfl ?_
  unfold v82
  simp -failIfUnchanged (disch := first | omega | (simp <;> omega) | fail) only [go_sem, simprocAttr]
  rw [strip_zeros, zeros_len2, if_pos (Nat.le_refl _)]
  have := chunks_z (min (max 0 b.places) 4).toNat []
  rw [List.nil_append, List.length_nil] at this
  rw [this]
  rfl

theorem c110 (b : FB) (l : List Sp) : Ctr Try.prog 110 [FK b, SS l] (KB ⟨b.base, b.places, [], l⟩) := by
  refine ctr_of_wp hmix Try.func110 m110 rfl ?_
  unfold v110
  simp -failIfUnchanged (disch := first | omega | (simp <;> omega) | fail) only [go_sem, simprocAttr]
  try simp

/-- Lists are not too long. -/
structure SmE (l : List En) : Prop where
  n : l.length < 4294967296
  c : ∀ e ∈ l, e.cord.length < 4294967296
structure SmF (b : FB) : Prop where
  ones : SmE b.ones
  others : SmE b.others

/-- A cord of a book. -/
def cdB (b : FB) (l : List Sp) : Bool := isCordB (ktd b []) l
def bpB (b : FB) : Bool := within b.base 2 10 && within b.places 1 4
def entB (b : FB) (e : En) : Bool := within e.day 0 99 && (within e.who 0 (w64 (b.persons - 1)) && (bpB b && cdB b e.cord))

theorem isCord_z {b : FB} (h : bpB b = true) (cs : List (List Sp)) : isCordB (ktd b cs) (zsN b) = true := by
  simp only [bpB, Bool.and_eq_true, within, decide_eq_true_eq] at h
  unfold isCordB zsN
  simp only [List.length_replicate, Bool.and_eq_true, decide_eq_true_eq, Bool.not_eq_true', List.any_eq_false]
  refine ⟨by omega, fun x hx => ?_⟩
  obtain ⟨_, rfl⟩ := List.mem_replicate.1 hx
  unfold badS within
  simp
  omega
theorem check_k1 (b : FB) (l : List Sp) : checkB (ktd b [l]) = (bpB b && cdB b l) := by
  have e1 : checkB (ktd b [l]) = (within b.base 2 10 && (within b.places 1 4 && (decide ((([l] : List (List Sp)).length : Int) ≤ 4) && (!([l] : List (List Sp)).any (fun l => !cdB b l) && isCordB (ktd b [l]) (zsN b))))) := rfl
  rw [e1]
  cases h : bpB b with
  | true =>
    rw [isCord_z h]
    simp only [bpB, Bool.and_eq_true] at h
    rw [h.1, h.2]
    simp
  | false =>
    have h2 := h
    simp only [bpB, Bool.and_eq_false_iff] at h2
    rcases h2 with h2 | h2 <;> simp [h2]
theorem check_k0 (b : FB) : checkB (ktd b []) = bpB b := by
  have e1 : checkB (ktd b []) = (within b.base 2 10 && (within b.places 1 4 && (decide ((([] : List (List Sp)).length : Int) ≤ 4) && (!([] : List (List Sp)).any (fun l => !cdB b l) && isCordB (ktd b []) (zsN b))))) := rfl
  rw [e1]
  cases h : bpB b with
  | true =>
    rw [isCord_z h]
    simp only [bpB, Bool.and_eq_true] at h
    rw [h.1, h.2]
    simp
  | false =>
    have h2 := h
    simp only [bpB, Bool.and_eq_false_iff] at h2
    rcases h2 with h2 | h2 <;> simp [h2]
theorem check_kt (b : FB) (l : List Sp) : checkB ⟨b.base, b.places, [], l⟩ = (bpB b && cdB b l) := by
  have e1 : checkB ⟨b.base, b.places, [], l⟩ = (within b.base 2 10 && (within b.places 1 4 && (decide ((([] : List (List Sp)).length : Int) ≤ 4) && (!([] : List (List Sp)).any (fun l => !cdB b l) && cdB b l)))) := rfl
  rw [e1]
  unfold bpB
  simp [Bool.and_assoc]
theorem zs_len (b : FB) : (zsN b).length ≤ 4 := by unfold zsN; rw [List.length_replicate]; omega
theorem small_k (b : FB) {cs : List (List Sp)} (h1 : cs.length < 4294967296) (h2 : ∀ l ∈ cs, l.length < 4294967296) : Small (ktd b cs) := ⟨h1, by have := zs_len b; show (zsN b).length < _; omega, h2⟩

theorem c85 (b : FB) (e : En) (hl : e.cord.length < 4294967296) : Ctr Try.prog 85 [FK b, EN e] (.bool (entB b e)) := by
  refine ctr_of_wp hmix Try.func85 m85 rfl ?_
  unfold v85 entB
  simp -failIfUnchanged (disch := first | omega | (simp <;> omega) | fail) only [go_sem, simprocAttr]
  refine wcall (c71 _ _ _) ?_
  cases h1 : within e.day 0 99 with
  | false => simp -failIfUnchanged (disch := first | omega | (simp <;> omega) | fail) only [go_sem, simprocAttr]
  | true =>
    simp -failIfUnchanged (disch := first | omega | (simp <;> omega) | fail) only [go_sem, simprocAttr]
    refine wcall (c71 _ _ _) ?_
    cases h2 : within e.who 0 (w64 (b.persons - 1)) with
    | false => simp -failIfUnchanged (disch := first | omega | (simp <;> omega) | fail) only [go_sem, simprocAttr]
    | true =>
      have k1 := c82 b [e.cord]
      have k2 := c81 (ktd b [e.cord]) (small_k b (by simp) (by simpa using hl))
      rw [check_k1] at k2
      simp -failIfUnchanged (disch := first | omega | (simp <;> omega) | fail) only [go_sem, simprocAttr]
      refine wcall k1 ?_
      simp -failIfUnchanged (disch := first | omega | (simp <;> omega) | fail) only [go_sem, simprocAttr]
      refine wcall k2 ?_
      cases bpB b && cdB b e.cord with
      | true => simp -failIfUnchanged (disch := first | omega | (simp <;> omega) | fail) only [go_sem, simprocAttr, eq_self]
      | false => simp -failIfUnchanged (disch := first | omega | (simp <;> omega) | fail) only [go_sem, simprocAttr]; try simp

theorem c84 (b : FB) (e : En) (hl : e.cord.length < 4294967296) : Ctr Try.prog 84 [EN e, .ref 6 [FK b] 0 0] (.bool (!entB b e)) := by
  refine ctr_of_wp hmix Try.func84 m84 rfl ?_
  unfold v84
  simp -failIfUnchanged (disch := first | omega | (simp <;> omega) | fail) only [go_sem, simprocAttr]
  refine wcall (c85 b e hl) ?_
  simp -failIfUnchanged (disch := first | omega | (simp <;> omega) | fail) only [go_sem, simprocAttr]

theorem c108 (l : List En) (g : Nat) (caps : List AV) (p : En → Bool) (hp : ∀ x ∈ l, Ctr Try.prog g ([EN x] ++ caps) (.bool (p x))) (hl : l.length < 4294967296) :
    Ctr Try.prog 108 [ES l, .clo g [] caps] (.int (idxF p l)) := by
  refine ctr_of_wp hmix Try.func108 m108 rfl ?_
  unfold v108
  simp -failIfUnchanged (disch := first | omega | (simp <;> omega) | fail) only [go_sem, simprocAttr]
  refine wp_loop' Nat (fun i => ⟨[(0, ES l), (1, .clo g [] caps), (7, .int l.length), (8, .int i)], [], [], none⟩) (fun i => i ≤ l.length ∧ ∀ x ∈ l.take i, p x = false) (fun i => l.length - i) 0 (by simp) (by simp -failIfUnchanged (disch := first | omega | (simp <;> omega) | fail) only [go_sem, simprocAttr]; try rfl) ?_
  rintro i ⟨hi, hpre⟩
  simp -failIfUnchanged (disch := first | omega | (simp <;> omega) | fail) only [go_sem, simprocAttr]
  refine wcond_dec (fun h => ?_) (fun h => ?_)
  · simp -failIfUnchanged (disch := first | omega | (simp <;> omega) | fail) only [go_sem, simprocAttr]
    have hlt : i < l.length := by omega
    refine wcall (hp _ (mem_getD hlt)) ?_
    simp -failIfUnchanged (disch := first | omega | (simp <;> omega) | fail) only [go_sem, simprocAttr]
    refine wcond_bool (fun hb => ?_) (fun hb => ?_)
    · simp -failIfUnchanged (disch := first | omega | (simp <;> omega) | fail) only [go_sem, simprocAttr]
      rw [idxF_hit hlt hpre hb]
    · simp -failIfUnchanged (disch := first | omega | (simp <;> omega) | fail) only [go_sem, simprocAttr]
      refine ⟨i + 1, ⟨by omega, take_succ_all hlt hpre hb⟩, by dsimp only; omega, ?_⟩
      simp -failIfUnchanged (disch := first | omega | (simp <;> omega) | fail) only [go_sem, simprocAttr]
      try simp
  · simp -failIfUnchanged (disch := first | omega | (simp <;> omega) | fail) only [go_sem, simprocAttr]
    have e : i = l.length := by omega
    rw [idxF_miss]
    rw [e, List.take_length] at hpre
    exact hpre

theorem c83 (l : List En) (g : Nat) (caps : List AV) (p : En → Bool) (hp : ∀ x ∈ l, Ctr Try.prog g ([EN x] ++ caps) (.bool (p x))) (hl : l.length < 4294967296) :
    Ctr Try.prog 83 [ES l, .clo g [] caps] (.bool (l.any p)) := by
  refine ctr_of_wp hmix Try.func83 m83 rfl ?_
  unfold v83
  simp -failIfUnchanged (disch := first | omega | (simp <;> omega) | fail) only [go_sem, simprocAttr]
  refine wcall (c108 l g caps p hp hl) ?_
  simp -failIfUnchanged (disch := first | omega | (simp <;> omega) | fail) only [go_sem, simprocAttr]
  rw [idxF_geq]

theorem c98 (l : List Pa) (g : Nat) (caps : List AV) (p : Pa → Bool) (hp : ∀ x ∈ l, Ctr Try.prog g ([PA x] ++ caps) (.bool (p x))) (hl : l.length < 4294967296) :
    Ctr Try.prog 98 [PS l, .clo g [] caps] (.int (idxF p l)) := by
  refine ctr_of_wp hmix Try.func98 m98 rfl ?_
  unfold v98
  simp -failIfUnchanged (disch := first | omega | (simp <;> omega) | fail) only [go_sem, simprocAttr]
  refine wp_loop' Nat (fun i => ⟨[(0, PS l), (1, .clo g [] caps), (7, .int l.length), (8, .int i)], [], [], none⟩) (fun i => i ≤ l.length ∧ ∀ x ∈ l.take i, p x = false) (fun i => l.length - i) 0 (by simp) (by simp -failIfUnchanged (disch := first | omega | (simp <;> omega) | fail) only [go_sem, simprocAttr]; try rfl) ?_
  rintro i ⟨hi, hpre⟩
  simp -failIfUnchanged (disch := first | omega | (simp <;> omega) | fail) only [go_sem, simprocAttr]
  refine wcond_dec (fun h => ?_) (fun h => ?_)
  · simp -failIfUnchanged (disch := first | omega | (simp <;> omega) | fail) only [go_sem, simprocAttr]
    have hlt : i < l.length := by omega
    refine wcall (hp _ (mem_getD hlt)) ?_
    simp -failIfUnchanged (disch := first | omega | (simp <;> omega) | fail) only [go_sem, simprocAttr]
    refine wcond_bool (fun hb => ?_) (fun hb => ?_)
    · simp -failIfUnchanged (disch := first | omega | (simp <;> omega) | fail) only [go_sem, simprocAttr]
      rw [idxF_hit hlt hpre hb]
    · simp -failIfUnchanged (disch := first | omega | (simp <;> omega) | fail) only [go_sem, simprocAttr]
      refine ⟨i + 1, ⟨by omega, take_succ_all hlt hpre hb⟩, by dsimp only; omega, ?_⟩
      simp -failIfUnchanged (disch := first | omega | (simp <;> omega) | fail) only [go_sem, simprocAttr]
      try simp
  · simp -failIfUnchanged (disch := first | omega | (simp <;> omega) | fail) only [go_sem, simprocAttr]
    have e : i = l.length := by omega
    rw [idxF_miss]
    rw [e, List.take_length] at hpre
    exact hpre

theorem c96 (l : List Pa) (g : Nat) (caps : List AV) (p : Pa → Bool) (hp : ∀ x ∈ l, Ctr Try.prog g ([PA x] ++ caps) (.bool (p x))) (hl : l.length < 4294967296) :
    Ctr Try.prog 96 [PS l, .clo g [] caps] (.bool (l.any p)) := by
  refine ctr_of_wp hmix Try.func96 m96 rfl ?_
  unfold v96
  simp -failIfUnchanged (disch := first | omega | (simp <;> omega) | fail) only [go_sem, simprocAttr]
  refine wcall (c98 l g caps p hp hl) ?_
  simp -failIfUnchanged (disch := first | omega | (simp <;> omega) | fail) only [go_sem, simprocAttr]
  rw [idxF_geq]

/-- What is valid. -/
def listB (b : FB) (l : List En) : Bool := decide ((l.length : Int) ≤ 5) && l.all (entB b)
def chkB (b : FB) : Bool := bpB b && (within b.persons 0 4 && (within b.late 0 30 && (listB b b.ones && listB b b.others)))
def errF (b : FB) : Int := if chkB b then 0 else 130

theorem any_not {α : Type} (p : α → Bool) (l : List α) : l.any (fun x => !p x) = !l.all p := by
  induction l with
  | nil => rfl
  | cons x r ih => simp only [List.any_cons, List.all_cons, ih, Bool.not_and]

theorem c48 (b : FB) (hs : SmF b) : Ctr Try.prog 48 [FK b] (.int (errF b)) := by
  refine ctr_of_wp hmix Try.func48 m48 rfl ?_
  unfold v48
  have k1 := c82 b []
  have k2 := c81 (ktd b []) (small_k b (by simp) (by simp))
  rw [check_k0] at k2
  have h83 : ∀ l : List En, SmE l → Ctr Try.prog 83 [ES l, .clo 84 [] [.ref 6 [FK b] 0 0]] (.bool (!l.all (entB b))) := fun l hl => by
    have := c83 l 84 [.ref 6 [FK b] 0 0] (fun x => !entB b x) (fun x hx => c84 b x (hl.c x hx)) hl.n
    rw [any_not] at this
    exact this
  unfold errF chkB
  simp -failIfUnchanged (disch := first | omega | (simp <;> omega) | fail) only [go_sem, simprocAttr]
  refine wcall k1 ?_
  simp -failIfUnchanged (disch := first | omega | (simp <;> omega) | fail) only [go_sem, simprocAttr]
  refine wcall k2 ?_
  cases hb : bpB b with
  | false => simp -failIfUnchanged (disch := first | omega | (simp <;> omega) | fail) only [go_sem, simprocAttr]; try simp
  | true =>
    simp -failIfUnchanged (disch := first | omega | (simp <;> omega) | fail) only [go_sem, simprocAttr, eq_self]
    refine wcall (c71 _ _ _) ?_
    cases hp : within b.persons 0 4 with
    | false => simp -failIfUnchanged (disch := first | omega | (simp <;> omega) | fail) only [go_sem, simprocAttr]; try simp
    | true =>
      simp -failIfUnchanged (disch := first | omega | (simp <;> omega) | fail) only [go_sem, simprocAttr]
      refine wcall (c71 _ _ _) ?_
      cases hl : within b.late 0 30 with
      | false => simp -failIfUnchanged (disch := first | omega | (simp <;> omega) | fail) only [go_sem, simprocAttr]; try simp
      | true =>
        simp -failIfUnchanged (disch := first | omega | (simp <;> omega) | fail) only [go_sem, simprocAttr]
        refine wp_loopF [1] Nat (fun i => ⟨[(1, .ptr 1 0), (25, .agg [ES b.ones, ES b.others]), (26, .int i)], [(1, ⟨[.int b.base, .int b.places, .int b.persons, .int b.late, ES b.ones, ES b.others], true⟩)], [], none⟩) (fun i => i ≤ 2 ∧ (1 ≤ i → listB b b.ones = true) ∧ (2 ≤ i → listB b b.others = true)) (fun i => 2 - i) 0 ⟨by omega, fun h => by omega, fun h => by omega⟩ (by simp -failIfUnchanged (disch := first | omega | (simp <;> omega) | fail) only [go_sem, simprocAttr]; try simp) ?_
        rintro i ⟨hi, q1, q2⟩
        simp -failIfUnchanged (disch := first | omega | (simp <;> omega) | fail) only [go_sem, simprocAttr]
        refine wcond_dec (fun hc => ?_) (fun hc => ?_)
        · have hlt : i < 2 := by omega
          obtain ⟨L, hL, hsL, hbad, hgood⟩ : ∃ L : List En, ([ES b.ones, ES b.others] : List AV)[i]?.getD .und = ES L ∧ SmE L ∧ (listB b L = false → (listB b b.ones && listB b b.others) = false) ∧ (listB b L = true → (1 ≤ i + 1 → listB b b.ones = true) ∧ (2 ≤ i + 1 → listB b b.others = true)) := by
            match i, hlt with
            | 0, _ => exact ⟨b.ones, rfl, hs.ones, fun h => by rw [h]; rfl, fun h => ⟨fun _ => h, fun x => by omega⟩⟩
            | 1, _ => exact ⟨b.others, rfl, hs.others, fun h => by rw [h, Bool.and_false], fun h => ⟨fun _ => q1 (by omega), fun _ => h⟩⟩
          have k3 := h83 L hsL
          simp -failIfUnchanged (disch := first | omega | (simp <;> omega) | fail) only [go_sem, simprocAttr, hL]
          refine WGd_bool (fun h5 => ?_) (fun h5 => ?_)
          · have h5' : (L.length : Int) ≤ 5 := by
              apply Classical.byContradiction
              intro hno
              have : decide ((5 : Int) < L.length) = true := decide_eq_true (by omega)
              rw [this] at h5
              cases h5
            simp -failIfUnchanged (disch := first | omega | (simp <;> omega) | fail) only [go_sem, simprocAttr, h5]
            refine wcall k3 ?_
            cases ha : L.all (entB b) with
            | true =>
              simp -failIfUnchanged (disch := first | omega | (simp <;> omega) | fail) only [go_sem, simprocAttr]
              refine ⟨i + 1, ⟨by omega, hgood (by unfold listB; rw [ha, decide_eq_true h5']; rfl)⟩, by dsimp only; omega, ?_⟩
              simp -failIfUnchanged (disch := first | omega | (simp <;> omega) | fail) only [go_sem, simprocAttr]
              try simp
            | false =>
              rw [hbad (by unfold listB; rw [ha, Bool.and_false])]
              simp -failIfUnchanged (disch := first | omega | (simp <;> omega) | fail) only [go_sem, simprocAttr]
              try simp
          · have h5' : ¬ (L.length : Int) ≤ 5 := fun x => by
              have h6 : decide ((5 : Int) < L.length) = true := h5
              have := of_decide_eq_true h6
              omega
            rw [hbad (by unfold listB; rw [decide_eq_false h5']; rfl)]
            simp -failIfUnchanged (disch := first | omega | (simp <;> omega) | fail) only [go_sem, simprocAttr, h5]
            try simp
        · have e : i = 2 := by omega
          rw [q1 (by omega), q2 (by omega)]
          simp -failIfUnchanged (disch := first | omega | (simp <;> omega) | fail) only [go_sem, simprocAttr]
          try simp

end Go.Proofs.Ytemnojaoickjfaa


/- The document's Check; who can be asked for; what two entries have in common. -/
set_option linter.unusedSimpArgs false
set_option linter.unusedVariables false
set_option linter.unnecessarySimpa false
namespace Go.Proofs.Ytemnojaoickjfaa
open Go Go.V

/-- What is still to be shown (hidden from omega). -/
structure Later (T : Prop) : Prop where
  out : T
theorem tailed {T G : Prop} (h : Later T → G) (t : T) : G := h ⟨t⟩

theorem c75 (b : FB) (n : Int) : Ctr Try.prog 75 [FK b, .int n] (.bool (within n 0 (w64 (b.persons - 1)))) := by
  refine ctr_of_wp hmix Try.func75 m75 rfl ?_
  unfold v75
  simp -failIfUnchanged (disch := first | omega | (simp <;> omega) | fail) only [go_sem, simprocAttr]
  refine wcall (c77 _ _ _) ?_
  simp -failIfUnchanged (disch := first | omega | (simp <;> omega) | fail) only [go_sem, simprocAttr]
theorem c35 (b : FB) (n : Int) : Ctr Try.prog 35 [FK b, .int n] (.bool (within n 0 (w64 ((b.ones.length : Int) - 1)))) := by
  refine ctr_of_wp hmix Try.func35 m35 rfl ?_
  unfold v35
  simp -failIfUnchanged (disch := first | omega | (simp <;> omega) | fail) only [go_sem, simprocAttr]
  refine wcall (c77 _ _ _) ?_
  simp -failIfUnchanged (disch := first | omega | (simp <;> omega) | fail) only [go_sem, simprocAttr]
theorem c36 (b : FB) (n : Int) : Ctr Try.prog 36 [FK b, .int n] (.bool (within n 0 (w64 ((b.others.length : Int) - 1)))) := by
  refine ctr_of_wp hmix Try.func36 m36 rfl ?_
  unfold v36
  simp -failIfUnchanged (disch := first | omega | (simp <;> omega) | fail) only [go_sem, simprocAttr]
  refine wcall (c77 _ _ _) ?_
  simp -failIfUnchanged (disch := first | omega | (simp <;> omega) | fail) only [go_sem, simprocAttr]
theorem c38 (n : Int) : Ctr Try.prog 38 [.int n] (.bool (within n 0 1)) := by
  refine ctr_of_wp hmix Try.func38 m38 rfl ?_
  unfold v38
  simp -failIfUnchanged (disch := first | omega | (simp <;> omega) | fail) only [go_sem, simprocAttr]
  refine wcall (c77 _ _ _) ?_
  simp -failIfUnchanged (disch := first | omega | (simp <;> omega) | fail) only [go_sem, simprocAttr]
theorem c78 (l : List En) (n : Int) : Ctr Try.prog 78 [ES l, .int n] (.bool (within n 0 (w64 ((l.length : Int) - 1)))) := by
  refine ctr_of_wp hmix Try.func78 m78 rfl ?_
  unfold v78
  simp -failIfUnchanged (disch := first | omega | (simp <;> omega) | fail) only [go_sem, simprocAttr]
  refine wcall (c71 _ _ _) ?_
  simp -failIfUnchanged (disch := first | omega | (simp <;> omega) | fail) only [go_sem, simprocAttr]

theorem c86 (b : FB) (l : List En) (hs : SmE l) (hb : bpB b = true) : Ctr Try.prog 86 [FK b, ES l] (.bool (listB b l)) := by
  refine ctr_of_wp hmix Try.func86 m86 rfl ?_
  unfold v86 listB
  simp -failIfUnchanged (disch := first | omega | (simp <;> omega) | fail) only [go_sem, simprocAttr]
  refine wcond_dec (fun hc => ?_) (fun hc => ?_)
  · have h5 : decide ((l.length : Int) ≤ 5) = false := decide_eq_false (by omega)
    rw [h5]
    simp -failIfUnchanged (disch := first | omega | (simp <;> omega) | fail) only [go_sem, simprocAttr]
  · have h5 : decide ((l.length : Int) ≤ 5) = true := decide_eq_true (by omega)
    rw [h5]
    simp -failIfUnchanged (disch := first | omega | (simp <;> omega) | fail) only [go_sem, simprocAttr]
    refine wp_loop' Nat (fun i => ⟨[(1, ES l), (2, .ptr 2 0), (5, .int i)], [(2, ⟨[.int b.base, .int b.places, .int b.persons, .int b.late, ES b.ones, ES b.others], false⟩)], [], none⟩) (fun i => i ≤ l.length ∧ ∀ x ∈ l.take i, entB b x = true) (fun i => l.length - i) 0 (by simp) (by simp -failIfUnchanged (disch := first | omega | (simp <;> omega) | fail) only [go_sem, simprocAttr]; try simp) ?_
    rintro i ⟨hi, hpre⟩
    simp -failIfUnchanged (disch := first | omega | (simp <;> omega) | fail) only [go_sem, simprocAttr]
    refine wcond_dec (fun hc => ?_) (fun hc => ?_)
    · have hlt : i < l.length := by omega
      obtain ⟨e, he⟩ : ∃ e, l[i]?.getD default = e := ⟨_, rfl⟩
      have hel : e ∈ l := by rw [← he]; exact mem_getD hlt
      have hsl := hs.c e hel
      have k1 := c110 b e.cord
      have k2 := c109 ⟨b.base, b.places, [], e.cord⟩ ⟨by simp, hsl, by simp⟩
      rw [check_kt, hb, Bool.true_and] at k2
      have bad : entB b e = false → l.all (entB b) = false := fun h => List.all_eq_false.2 ⟨e, hel, by rw [h]; exact Bool.false_ne_true⟩
      have good : entB b e = true → ∀ x ∈ l.take (i + 1), entB b x = true := fun h => by
        rw [List.take_add_one, List.getElem?_eq_getElem hlt]
        intro x hx
        rcases List.mem_append.1 hx with hx | hx
        · exact hpre x hx
        · have e2 : l[i] = e := by rw [← he, List.getElem?_eq_getElem hlt]; rfl
          simp at hx
          rw [hx, e2]
          exact h
      have hent : entB b e = (within e.day 0 99 && (within e.who 0 (w64 (b.persons - 1)) && cdB b e.cord)) := by unfold entB; rw [hb, Bool.true_and]
      simp -failIfUnchanged (disch := first | omega | (simp <;> omega) | fail) only [go_sem, simprocAttr, he]
      refine wcall (c77 _ _ _) ?_
      cases h1 : within e.day 0 99 with
      | false =>
        rw [bad (by rw [hent, h1]; rfl)]
        simp -failIfUnchanged (disch := first | omega | (simp <;> omega) | fail) only [go_sem, simprocAttr]
      | true =>
        simp -failIfUnchanged (disch := first | omega | (simp <;> omega) | fail) only [go_sem, simprocAttr]
        refine wcall (c75 b _) ?_
        cases h2 : within e.who 0 (w64 (b.persons - 1)) with
        | false =>
          rw [bad (by rw [hent, h1, h2]; rfl)]
          simp -failIfUnchanged (disch := first | omega | (simp <;> omega) | fail) only [go_sem, simprocAttr]
        | true =>
          simp -failIfUnchanged (disch := first | omega | (simp <;> omega) | fail) only [go_sem, simprocAttr]
          refine wcall k1 ?_
          simp -failIfUnchanged (disch := first | omega | (simp <;> omega) | fail) only [go_sem, simprocAttr]
          refine wcall k2 ?_
          cases h3 : cdB b e.cord with
          | false =>
            rw [bad (by rw [hent, h1, h2, h3]; rfl)]
            simp -failIfUnchanged (disch := first | omega | (simp <;> omega) | fail) only [go_sem, simprocAttr]
            try simp
          | true =>
            simp -failIfUnchanged (disch := first | omega | (simp <;> omega) | fail) only [go_sem, simprocAttr, eq_self]
            refine ⟨i + 1, ⟨by omega, good (by rw [hent, h1, h2, h3]; rfl)⟩, by dsimp only; omega, ?_⟩
            simp -failIfUnchanged (disch := first | omega | (simp <;> omega) | fail) only [go_sem, simprocAttr]
            try simp
    · have e : i = l.length := by omega
      rw [e, List.take_length] at hpre
      have : l.all (entB b) = true := List.all_eq_true.2 hpre
      rw [this]
      simp -failIfUnchanged (disch := first | omega | (simp <;> omega) | fail) only [go_sem, simprocAttr]

theorem c49 (b : FB) (hs : SmF b) : Ctr Try.prog 49 [FK b] (.int (errF b)) := by
  refine ctr_of_wp hmix Try.func49 m49 rfl ?_
  unfold v49 errF chkB
  simp -failIfUnchanged (disch := first | omega | (simp <;> omega) | fail) only [go_sem, simprocAttr]
  refine wcall (c77 _ _ _) ?_
  cases h1 : within b.base 2 10 with
  | false => 
    have hb : bpB b = false := by unfold bpB; rw [h1]; rfl
    rw [hb]
    simp -failIfUnchanged (disch := first | omega | (simp <;> omega) | fail) only [go_sem, simprocAttr]; try simp
  | true =>
    simp -failIfUnchanged (disch := first | omega | (simp <;> omega) | fail) only [go_sem, simprocAttr]
    refine wcall (c77 _ _ _) ?_
    cases h2 : within b.places 1 4 with
    | false =>
      have hb : bpB b = false := by unfold bpB; rw [h2, Bool.and_false]
      rw [hb]
      simp -failIfUnchanged (disch := first | omega | (simp <;> omega) | fail) only [go_sem, simprocAttr]; try simp
    | true =>
      have hb : bpB b = true := by unfold bpB; rw [h1, h2]; rfl
      rw [hb]
      simp -failIfUnchanged (disch := first | omega | (simp <;> omega) | fail) only [go_sem, simprocAttr]
      refine wcall (c77 _ _ _) ?_
      cases h3 : within b.persons 0 4 with
      | false => simp -failIfUnchanged (disch := first | omega | (simp <;> omega) | fail) only [go_sem, simprocAttr]; try simp
      | true =>
        simp -failIfUnchanged (disch := first | omega | (simp <;> omega) | fail) only [go_sem, simprocAttr]
        refine wcall (c77 _ _ _) ?_
        cases h4 : within b.late 0 30 with
        | false => simp -failIfUnchanged (disch := first | omega | (simp <;> omega) | fail) only [go_sem, simprocAttr]; try simp
        | true =>
          simp -failIfUnchanged (disch := first | omega | (simp <;> omega) | fail) only [go_sem, simprocAttr]
          refine wcall (c86 b b.ones hs.ones hb) ?_
          cases h5 : listB b b.ones with
          | false => simp -failIfUnchanged (disch := first | omega | (simp <;> omega) | fail) only [go_sem, simprocAttr]; try simp
          | true =>
            simp -failIfUnchanged (disch := first | omega | (simp <;> omega) | fail) only [go_sem, simprocAttr]
            refine wcall (c86 b b.others hs.others hb) ?_
            cases h6 : listB b b.others with
            | false => simp -failIfUnchanged (disch := first | omega | (simp <;> omega) | fail) only [go_sem, simprocAttr]; try simp
            | true => simp -failIfUnchanged (disch := first | omega | (simp <;> omega) | fail) only [go_sem, simprocAttr]; try simp

def askF (b : FB) (is : Bool) : Int := if chkB b then if is then 0 else 1 else 130
theorem c70 (b : FB) (hs : SmF b) (is : Bool) : Ctr Try.prog 70 [FK b, .bool is] (.int (askF b is)) := by
  refine ctr_of_wp hmix Try.func70 m70 rfl ?_
  have k := c48 b hs
  unfold errF at k
  unfold v70 askF
  simp -failIfUnchanged (disch := first | omega | (simp <;> omega) | fail) only [go_sem, simprocAttr]
  refine wcall k ?_
  cases chkB b with
  | false => simp -failIfUnchanged (disch := first | omega | (simp <;> omega) | fail) only [go_sem, simprocAttr]; try simp
  | true =>
    cases is with
    | false => simp -failIfUnchanged (disch := first | omega | (simp <;> omega) | fail) only [go_sem, simprocAttr]; try simp
    | true => simp -failIfUnchanged (disch := first | omega | (simp <;> omega) | fail) only [go_sem, simprocAttr]; try simp
theorem c74 (b : FB) (hs : SmF b) (is : Bool) : Ctr Try.prog 74 [FK b, .bool is] (.int (askF b is)) := by
  refine ctr_of_wp hmix Try.func74 m74 rfl ?_
  have k := c49 b hs
  unfold errF at k
  unfold v74 askF
  simp -failIfUnchanged (disch := first | omega | (simp <;> omega) | fail) only [go_sem, simprocAttr]
  refine wcall k ?_
  cases chkB b with
  | false => simp -failIfUnchanged (disch := first | omega | (simp <;> omega) | fail) only [go_sem, simprocAttr]; try simp
  | true =>
    cases is with
    | false => simp -failIfUnchanged (disch := first | omega | (simp <;> omega) | fail) only [go_sem, simprocAttr]; try simp
    | true => simp -failIfUnchanged (disch := first | omega | (simp <;> omega) | fail) only [go_sem, simprocAttr]; try simp

/-- By how many days entries differ; what their cords have in common. -/
def dayI (x y : En) : Int := max (w64 (x.day - y.day)) (w64 (y.day - x.day))
theorem c65 (x y : En) : Ctr Try.prog 65 [EN x, EN y] (.int (dayI x y)) := by
  refine ctr_of_wp hmix Try.func65 m65 rfl ?_
  unfold v65 dayI
  simp -failIfUnchanged (disch := first | omega | (simp <;> omega) | fail) only [go_sem, simprocAttr]
theorem c90 (x y : En) : Ctr Try.prog 90 [EN x, EN y] (.int (dayI x y)) := by
  refine ctr_of_wp hmix Try.func90 m90 rfl ?_
  unfold v90 dayI
  simp -failIfUnchanged (disch := first | omega | (simp <;> omega) | fail) only [go_sem, simprocAttr]
def cmS (s t : Sp) : Sp := ⟨max s.lo t.lo, min s.hi t.hi⟩
def comK (x y : List Sp) (k : Nat) : List Sp := (List.range k).map fun i => cmS (x[i]?.getD default) (y[i]?.getD default)
def comL (x y : List Sp) : List Sp := comK x y x.length
def fitB (l : List Sp) : Bool := l.all fun s => decide (s.lo ≤ s.hi)
def comB (late : Int) (x y : En) : Bool := decide (x.who = y.who) && (decide (dayI x y ≤ late) && fitB (comL x.cord y.cord))
theorem comK_succ (x y : List Sp) (k : Nat) : comK x y (k + 1) = comK x y k ++ [cmS (x[k]?.getD default) (y[k]?.getD default)] := by
  unfold comK
  rw [List.range_succ, List.map_append]
  rfl
theorem comK_len (x y : List Sp) (k : Nat) : (comK x y k).length = k := by simp [comK]
theorem fitB_snoc (l : List Sp) (s : Sp) : fitB (l ++ [s]) = (fitB l && decide (s.lo ≤ s.hi)) := by simp [fitB]

theorem c79 (late : Int) (x y : En) (h : x.cord.length ≤ y.cord.length) (hl : y.cord.length < 4294967296) : Ctr Try.prog 79 [.int late, EN x, EN y] (.tup [SS (comL x.cord y.cord), .bool (comB late x y)]) := by
  refine ctr_of_wp hmix Try.func79 m79 rfl ?_
  unfold v79
  obtain ⟨q, hq⟩ : ∃ q, (decide (x.who = y.who) && decide (dayI x y ≤ late)) = q := ⟨_, rfl⟩
  have hcb : comB late x y = (q && fitB (comL x.cord y.cord)) := by unfold comB; rw [← hq, Bool.and_assoc]
  rw [hcb]
  simp -failIfUnchanged (disch := first | omega | (simp <;> omega) | fail) only [go_sem, simprocAttr]
  refine tailed (T := ?Tx) (fun tail => ?mx) ?tx
  case mx =>
    refine WGd_bool (fun h1 => ?_) (fun h1 => ?_)
    · simp -failIfUnchanged (disch := first | omega | (simp <;> omega) | fail) only [go_sem, simprocAttr, h1]
      refine wcall (c65 x y) ?_
      rw [h1, Bool.true_and] at hq
      simp -failIfUnchanged (disch := first | omega | (simp <;> omega) | fail) only [go_sem, simprocAttr, hq]
      exact tail.out
    · have h1' : decide (x.who = y.who) = false := h1
      rw [h1', Bool.false_and] at hq
      subst hq
      simp -failIfUnchanged (disch := first | omega | (simp <;> omega) | fail) only [go_sem, simprocAttr, h1]
      exact tail.out
  case tx =>
    refine wp_loop' Nat (fun i => ⟨[(5, .ptr 5 0), (8, .bool (q && fitB (comK x.cord y.cord i))), (9, .sl 2 ((comK x.cord y.cord i).map SP) (.own 9)), (27, SS x.cord), (28, .int x.cord.length), (29, .int i)], [(5, ⟨[.int y.day, .int y.who, SS y.cord], false⟩)], [(9, (comK x.cord y.cord i).length)], none⟩) (fun i => i ≤ x.cord.length) (fun i => x.cord.length - i) 0 (by simp) (by simp -failIfUnchanged (disch := first | omega | (simp <;> omega) | fail) only [go_sem, simprocAttr]; simp [comK, fitB]) ?_
    intro i hi
    have hi : i ≤ x.cord.length := hi
    simp -failIfUnchanged (disch := first | omega | (simp <;> omega) | fail) only [go_sem, simprocAttr]
    refine wcond_dec (fun hc => ?_) (fun hc => ?_)
    · have hlt : i < x.cord.length := by omega
      have hcs := comK_succ x.cord y.cord i
      have hfs : fitB (comK x.cord y.cord (i + 1)) = (fitB (comK x.cord y.cord i) && decide ((cmS (x.cord[i]?.getD default) (y.cord[i]?.getD default)).lo ≤ (cmS (x.cord[i]?.getD default) (y.cord[i]?.getD default)).hi)) := by rw [hcs, fitB_snoc]
      have hkl := comK_len x.cord y.cord i
      obtain ⟨u, hu⟩ : ∃ u, x.cord[i]?.getD default = u := ⟨_, rfl⟩
      obtain ⟨v, hv⟩ : ∃ v, y.cord[i]?.getD default = v := ⟨_, rfl⟩
      rw [hu, hv] at hcs hfs
      obtain ⟨g, hg⟩ : ∃ g, (q && fitB (comK x.cord y.cord i)) = g := ⟨_, rfl⟩
      have hgs : (q && fitB (comK x.cord y.cord (i + 1))) = (g && decide (max u.lo v.lo ≤ min u.hi v.hi)) := by rw [hfs, ← Bool.and_assoc, hg]; rfl
      obtain ⟨K, hK⟩ : ∃ K, comK x.cord y.cord i = K := ⟨_, rfl⟩
      rw [hK] at hcs hkl hg
      simp -failIfUnchanged (disch := first | omega | (simp <;> omega) | fail) only [go_sem, simprocAttr, hu, hv, hg, hK]
      refine WGd_bool (fun h1 => ?_) (fun h1 => ?_)
      · rw [h1, Bool.true_and] at hgs
        simp -failIfUnchanged (disch := first | omega | (simp <;> omega) | fail) only [go_sem, simprocAttr, h1]
        refine ⟨i + 1, by dsimp only; omega, by dsimp only; omega, ?_⟩
        dsimp only
        rw [hgs, hcs]
        simp -failIfUnchanged (disch := first | omega | (simp <;> omega) | fail) only [go_sem, simprocAttr]
        simp [cmS, hkl]
      · have h1' : g = false := h1
        rw [h1', Bool.false_and] at hgs
        simp -failIfUnchanged (disch := first | omega | (simp <;> omega) | fail) only [go_sem, simprocAttr, h1]
        refine ⟨i + 1, by dsimp only; omega, by dsimp only; omega, ?_⟩
        dsimp only
        rw [hgs, hcs]
        simp -failIfUnchanged (disch := first | omega | (simp <;> omega) | fail) only [go_sem, simprocAttr]
        simp [cmS, hkl]
    · have e : i = x.cord.length := by omega
      subst e
      simp -failIfUnchanged (disch := first | omega | (simp <;> omega) | fail) only [go_sem, simprocAttr]
      try simp [comL]

end Go.Proofs.Ytemnojaoickjfaa


/- Valid books; Same, Common; pence. -/
set_option linter.unusedSimpArgs false
set_option linter.unusedVariables false
set_option linter.unnecessarySimpa false
namespace Go.Proofs.Ytemnojaoickjfaa
open Go Go.V

/-- What a valid cord is, and a valid entry. -/
structure VC1 (b : FB) (l : List Sp) : Prop where
  n : (l.length : Int) = b.places
  s : ∀ s ∈ l, 0 ≤ s.lo ∧ s.lo ≤ s.hi ∧ s.hi < b.base
structure VE (b : FB) (e : En) : Prop where
  d : 0 ≤ e.day ∧ e.day ≤ 99
  w : 0 ≤ e.who ∧ e.who < b.persons
  c : VC1 b e.cord
structure VF (b : FB) : Prop where
  bs : 2 ≤ b.base ∧ b.base ≤ 10
  pl : 1 ≤ b.places ∧ b.places ≤ 4
  pe : 0 ≤ b.persons ∧ b.persons ≤ 4
  la : 0 ≤ b.late ∧ b.late ≤ 30
  n1 : b.ones.length ≤ 5
  n2 : b.others.length ≤ 5
  e1 : ∀ e ∈ b.ones, VE b e
  e2 : ∀ e ∈ b.others, VE b e

theorem cd_iff {b : FB} {l : List Sp} : cdB b l = true ↔ VC1 b l := by
  unfold cdB isCordB badS within
  simp only [Bool.and_eq_true, decide_eq_true_eq, Bool.not_eq_true', List.any_eq_false, Bool.or_eq_true, not_or, Bool.not_eq_eq_eq_not, Bool.not_true, decide_eq_false_iff_not]
  constructor
  · rintro ⟨h1, h2⟩
    exact ⟨h1, fun s hs => by have := h2 s hs; omega⟩
  · rintro ⟨h1, h2⟩
    exact ⟨h1, fun s hs => by have := h2 s hs; omega⟩
theorem vf_of {b : FB} (h : chkB b = true) : VF b := by
  simp only [chkB, bpB, listB, Bool.and_eq_true, within, decide_eq_true_eq, List.all_eq_true] at h
  obtain ⟨⟨h1, h2⟩, h3, h4, ⟨h5, h6⟩, h7, h8⟩ := h
  have key : ∀ e, entB b e = true → VE b e := fun e he => by
    simp only [entB, within, Bool.and_eq_true, decide_eq_true_eq] at he
    obtain ⟨k1, k2, _, k4⟩ := he
    rw [w64_id (by omega)] at k2
    exact ⟨k1, by omega, cd_iff.1 k4⟩
  exact ⟨h1, h2, h3, h4, by omega, by omega, fun e he => key e (h6 e he), fun e he => key e (h8 e he)⟩
theorem bp_of {b : FB} (hv : VF b) : bpB b = true := by
  simp only [bpB, within, Bool.and_eq_true, decide_eq_true_eq]
  exact ⟨hv.bs, hv.pl⟩

def one (b : FB) (i : Nat) : En := b.ones[i]?.getD default
def oth (b : FB) (i : Nat) : En := b.others[i]?.getD default
theorem one_v {b : FB} (hv : VF b) {i : Nat} (h : i < b.ones.length) : VE b (one b i) := hv.e1 _ (mem_getD h)
theorem oth_v {b : FB} (hv : VF b) {i : Nat} (h : i < b.others.length) : VE b (oth b i) := hv.e2 _ (mem_getD h)

theorem both_len {b : FB} {x y : List Sp} (hx : VC1 b x) (hy : VC1 b y) : x.length = y.length := by
  have := hx.n
  have := hy.n
  omega
theorem com_v {b : FB} {x y : List Sp} (hx : VC1 b x) (hy : VC1 b y) (hf : fitB (comL x y) = true) : VC1 b (comL x y) := by
  refine ⟨?_, fun s hs => ?_⟩
  · have := hx.n
    unfold comL
    rw [comK_len]
    exact this
  · unfold fitB at hf
    have h1 := of_decide_eq_true (List.all_eq_true.1 hf s hs)
    unfold comL comK at hs
    obtain ⟨i, hi, rfl⟩ := List.mem_map.1 hs
    have hi := List.mem_range.1 hi
    have hl := both_len hx hy
    have k1 := hx.s _ (mem_getD (l := x) (i := i) hi)
    have k2 := hy.s _ (mem_getD (l := y) (i := i) (by omega))
    unfold cmS at h1 ⊢
    dsimp only at h1 ⊢
    omega

theorem c80 (b : FB) (hb : bpB b = true) (l : List Sp) (hl : cdB b l = true) : Ctr Try.prog 80 [FK b, SS l] (SP (endsL b.base l)) := by
  refine ctr_of_wp hmix Try.func80 m80 rfl ?_
  unfold v80
  have hc := cd_iff.1 hl
  have hp : b.places ≤ 4 := by simp only [bpB, within, Bool.and_eq_true, decide_eq_true_eq] at hb; exact hb.2.2
  have k1 := c82 b [l]
  have k2 := c103 (ktd b [l]) (small_k b (by simp) (by have := hc.n; intro x hx; simp at hx; subst hx; omega)) 0
  rw [check_k1, hb, hl] at k2
  have hw : within 0 0 (([l] : List (List Sp)).length : Int) = true := rfl
  change Ctr Try.prog 103 [KB (ktd b [l]), .int 0] (if true = true then if within 0 0 (([l] : List (List Sp)).length : Int) = true then .tup [SP (endsL b.base l), .int 0] else _ else _) at k2
  rw [hw] at k2
  simp only [if_true] at k2
  simp -failIfUnchanged (disch := first | omega | (simp <;> omega) | fail) only [go_sem, simprocAttr]
  refine wcall k1 ?_
  simp -failIfUnchanged (disch := first | omega | (simp <;> omega) | fail) only [go_sem, simprocAttr]
  refine wcall k2 ?_
  simp -failIfUnchanged (disch := first | omega | (simp <;> omega) | fail) only [go_sem, simprocAttr]

theorem c92 (b : FB) (hb : bpB b = true) (l : List Sp) (hl : cdB b l = true) : Ctr Try.prog 92 [FK b, SS l] (SP (endsL b.base l)) := by
  refine ctr_of_wp hmix Try.func92 m92 rfl ?_
  unfold v92
  have hc := cd_iff.1 hl
  have hp : b.places ≤ 4 := by simp only [bpB, within, Bool.and_eq_true, decide_eq_true_eq] at hb; exact hb.2.2
  have k1 := c110 b l
  have k2 := c112 ⟨b.base, b.places, [], l⟩ ⟨by simp, by have := hc.n; dsimp only; omega, by simp⟩ 0
  rw [check_kt, hb, hl] at k2
  have hw : within 0 0 (([] : List (List Sp)).length : Int) = true := rfl
  change Ctr Try.prog 112 [KB ⟨b.base, b.places, [], l⟩, .int 0] (if true = true then if within 0 0 (([] : List (List Sp)).length : Int) = true then .tup [SP (endsL b.base l), .int 0] else _ else _) at k2
  rw [hw] at k2
  simp only [if_true] at k2
  simp -failIfUnchanged (disch := first | omega | (simp <;> omega) | fail) only [go_sem, simprocAttr]
  refine wcall k1 ?_
  simp -failIfUnchanged (disch := first | omega | (simp <;> omega) | fail) only [go_sem, simprocAttr]
  refine wcall k2 ?_
  simp -failIfUnchanged (disch := first | omega | (simp <;> omega) | fail) only [go_sem, simprocAttr]

/-- The clusters in common, as the document has it. -/
def botR (x y : List Sp) : AV := if fitB (comL x y) then .tup [SS (comL x y), .bool true] else .tup [SS [], .bool false]
theorem c102 (x y : List Sp) (h : x.length ≤ y.length) (hl : y.length < 4294967296) : Ctr Try.prog 102 [SS x, SS y] (botR x y) := by
  refine ctr_of_wp hmix Try.func102 m102 rfl ?_
  unfold v102
  simp -failIfUnchanged (disch := first | omega | (simp <;> omega) | fail) only [go_sem, simprocAttr]
  refine wp_loop' Nat (fun i => ⟨[(0, SS x), (1, SS y), (6, .sl 2 ((comK x y i).map SP) (.own 6)), (7, .int i)], [], [(6, (comK x y i).length)], none⟩) (fun i => i ≤ x.length ∧ fitB (comK x y i) = true) (fun i => x.length - i) 0 (by simp [comK, fitB]) (by simp -failIfUnchanged (disch := first | omega | (simp <;> omega) | fail) only [go_sem, simprocAttr]; simp [comK]) ?_
  rintro i ⟨hi, hpre⟩
  simp -failIfUnchanged (disch := first | omega | (simp <;> omega) | fail) only [go_sem, simprocAttr]
  refine wcond_dec (fun hc => ?_) (fun hc => ?_)
  · have hlt : i < x.length := by omega
    have hcs := comK_succ x y i
    have hfs : fitB (comK x y (i + 1)) = (fitB (comK x y i) && decide ((cmS (x[i]?.getD default) (y[i]?.getD default)).lo ≤ (cmS (x[i]?.getD default) (y[i]?.getD default)).hi)) := by rw [hcs, fitB_snoc]
    have hkl := comK_len x y i
    rw [hpre, Bool.true_and] at hfs
    have hbad : fitB (comK x y (i + 1)) = false → fitB (comL x y) = false := fun hf => by
      rw [Bool.eq_false_iff] at hf ⊢
      intro hg
      apply hf
      unfold fitB at hg ⊢
      rw [List.all_eq_true] at hg ⊢
      intro s hs
      refine hg s ?_
      unfold comL comK at *
      obtain ⟨j, hj, rfl⟩ := List.mem_map.1 hs
      exact List.mem_map.2 ⟨j, List.mem_range.2 (by have := List.mem_range.1 hj; omega), rfl⟩
    obtain ⟨u, hu⟩ : ∃ u, x[i]?.getD default = u := ⟨_, rfl⟩
    obtain ⟨v, hv⟩ : ∃ v, y[i]?.getD default = v := ⟨_, rfl⟩
    rw [hu, hv] at hcs hfs
    simp -failIfUnchanged (disch := first | omega | (simp <;> omega) | fail) only [go_sem, simprocAttr, hu, hv]
    refine wcond_dec (fun h5 => ?_) (fun h5 => ?_)
    · have hb := hbad (by rw [hfs]; exact decide_eq_false (by unfold cmS; dsimp only; omega))
      unfold botR
      rw [hb]
      simp -failIfUnchanged (disch := first | omega | (simp <;> omega) | fail) only [go_sem, simprocAttr]
      try simp
    · have hg : fitB (comK x y (i + 1)) = true := by rw [hfs]; exact decide_eq_true (by unfold cmS; dsimp only; omega)
      simp -failIfUnchanged (disch := first | omega | (simp <;> omega) | fail) only [go_sem, simprocAttr]
      refine ⟨i + 1, ⟨by omega, hg⟩, by dsimp only; omega, ?_⟩
      dsimp only
      rw [hcs]
      simp -failIfUnchanged (disch := first | omega | (simp <;> omega) | fail) only [go_sem, simprocAttr]
      simp [cmS]
  · have e : i = x.length := by omega
    subst e
    unfold botR
    have hpre : fitB (comL x y) = true := hpre
    rw [if_pos hpre]
    simp -failIfUnchanged (disch := first | omega | (simp <;> omega) | fail) only [go_sem, simprocAttr]
    try simp [comL]

theorem c76 (b : FB) (x y : En) (h : x.cord.length ≤ y.cord.length) (hl : y.cord.length < 4294967296) : Ctr Try.prog 76 [FK b, EN x, EN y] (.bool (comB b.late x y)) := by
  refine ctr_of_wp hmix Try.func76 m76 rfl ?_
  unfold v76
  have k := c102 x.cord y.cord h hl
  unfold botR at k
  unfold comB
  cases hf : fitB (comL x.cord y.cord) with
  | false =>
    rw [hf] at k
    simp -failIfUnchanged (disch := first | omega | (simp <;> omega) | fail) only [go_sem, simprocAttr]
    refine wcall k ?_
    simp -failIfUnchanged (disch := first | omega | (simp <;> omega) | fail) only [go_sem, simprocAttr]
    try simp
  | true =>
    rw [hf] at k
    simp -failIfUnchanged (disch := first | omega | (simp <;> omega) | fail) only [go_sem, simprocAttr]
    refine wcall k ?_
    simp -failIfUnchanged (disch := first | omega | (simp <;> omega) | fail) only [go_sem, simprocAttr]
    refine WGd_bool (fun h1 => ?_) (fun h1 => ?_)
    · simp -failIfUnchanged (disch := first | omega | (simp <;> omega) | fail) only [go_sem, simprocAttr, h1]
      refine wcall (c90 x y) ?_
      simp -failIfUnchanged (disch := first | omega | (simp <;> omega) | fail) only [go_sem, simprocAttr]
      try simp [h1]
    · have h1' : decide (x.who = y.who) = false := h1
      simp -failIfUnchanged (disch := first | omega | (simp <;> omega) | fail) only [go_sem, simprocAttr, h1]
      try simp [h1']

abbrev oneI (b : FB) (i : Int) : Bool := within i 0 (w64 ((b.ones.length : Int) - 1))
abbrev othI (b : FB) (i : Int) : Bool := within i 0 (w64 ((b.others.length : Int) - 1))
abbrev prE (b : FB) (i k : Int) : Int := askF b (oneI b i && othI b k)
def samR (b : FB) (i k : Int) : AV := .tup [.bool (if prE b i k = 0 then comB b.late (one b i.toNat) (oth b k.toNat) else false), .int (prE b i k)]
theorem pr_0 {b : FB} {is : Bool} (h : askF b is = 0) : chkB b = true ∧ is = true := by
  unfold askF at h
  cases hc : chkB b with
  | false => rw [hc] at h; simp at h
  | true =>
    rw [hc] at h
    cases is with
    | false => simp at h
    | true => exact ⟨rfl, rfl⟩
theorem ask_ok {b : FB} {is : Bool} (h : chkB b = true) (hi : is = true) : askF b is = 0 := by simp [askF, h, hi]
theorem in_n {l : List En} (hl : l.length ≤ 5) {i : Int} (h : within i 0 (w64 ((l.length : Int) - 1)) = true) : ∃ n : Nat, i = n ∧ n < l.length := by
  simp only [within, decide_eq_true_eq] at h
  rw [w64_id (by omega)] at h
  exact ⟨i.toNat, by omega, by omega⟩

theorem c37 (b : FB) (hs : SmF b) (i k : Int) : Ctr Try.prog 37 [FK b, .int i, .int k] (samR b i k) := by
  refine ctr_of_wp hmix Try.func37 m37 rfl ?_
  unfold v37 samR
  have a1 := c78 b.ones i
  have a2 := c78 b.others k
  obtain ⟨u, hu⟩ : ∃ u, within i 0 (w64 ((b.ones.length : Int) - 1)) = u := ⟨_, rfl⟩
  obtain ⟨v, hv⟩ : ∃ v, within k 0 (w64 ((b.others.length : Int) - 1)) = v := ⟨_, rfl⟩
  have he : prE b i k = askF b (u && v) := by unfold prE oneI othI; rw [hu, hv]
  obtain ⟨e, hE⟩ : ∃ e, askF b (u && v) = e := ⟨_, rfl⟩
  have a3 := c70 b hs (u && v)
  rw [he, hE]
  rw [hu] at a1
  rw [hv] at a2
  rw [hE] at a3
  simp -failIfUnchanged (disch := first | omega | (simp <;> omega) | fail) only [go_sem, simprocAttr]
  refine wcall a1 ?_
  refine tailed (T := ?Tx) (fun tail => ?mx) ?tx
  case mx =>
    cases u with
    | false =>
      simp -failIfUnchanged (disch := first | omega | (simp <;> omega) | fail) only [go_sem, simprocAttr]
      refine wcall a3 ?_
      simp -failIfUnchanged (disch := first | omega | (simp <;> omega) | fail) only [go_sem, simprocAttr]
      exact tail.out
    | true =>
      simp -failIfUnchanged (disch := first | omega | (simp <;> omega) | fail) only [go_sem, simprocAttr]
      refine wcall a2 ?_
      simp -failIfUnchanged (disch := first | omega | (simp <;> omega) | fail) only [go_sem, simprocAttr]
      refine wcall a3 ?_
      simp -failIfUnchanged (disch := first | omega | (simp <;> omega) | fail) only [go_sem, simprocAttr]
      exact tail.out
  case tx =>
    by_cases h0 : e = 0
    · subst h0
      obtain ⟨hc, huv⟩ := pr_0 hE
      rw [Bool.and_eq_true] at huv
      obtain ⟨rfl, rfl⟩ := huv
      have hV := vf_of hc
      obtain ⟨p, rfl, hp⟩ := in_n hV.n1 hu
      obtain ⟨q, rfl, hq⟩ := in_n hV.n2 hv
      have x1 := (one_v hV hp).c
      have x2 := (oth_v hV hq).c
      have hpl := hV.pl
      have hn2 := x2.n
      have a4 := c79 b.late (one b p) (oth b q) (by rw [both_len x1 x2]; exact Nat.le_refl _) (by omega)
      simp -failIfUnchanged (disch := first | omega | (simp <;> omega) | fail) only [go_sem, simprocAttr]
      refine wcall a4 ?_
      simp -failIfUnchanged (disch := first | omega | (simp <;> omega) | fail) only [go_sem, simprocAttr]
    · have hd : decide (¬ e = 0) = true := decide_eq_true h0
      simp -failIfUnchanged (disch := first | omega | (simp <;> omega) | fail) only [go_sem, simprocAttr, hd]
      simp [h0]

/-- The pence that entries have in common. -/
def pcI (b : FB) (x y : En) : Sp := endsL b.base (comL x.cord y.cord)
def cmmR (b : FB) (i k : Int) : AV := .tup [SP (if prE b i k = 0 then cond (comB b.late (one b i.toNat) (oth b k.toNat)) (pcI b (one b i.toNat) (oth b k.toNat)) ⟨0, 0⟩ else ⟨0, 0⟩), .int (if prE b i k = 0 then cond (comB b.late (one b i.toNat) (oth b k.toNat)) 0 3 else prE b i k)]
theorem c41 (b : FB) (hs : SmF b) (i k : Int) : Ctr Try.prog 41 [FK b, .int i, .int k] (cmmR b i k) := by
  refine ctr_of_wp hmix Try.func41 m41 rfl ?_
  unfold v41 cmmR
  have a1 := c78 b.ones i
  have a2 := c78 b.others k
  obtain ⟨u, hu⟩ : ∃ u, within i 0 (w64 ((b.ones.length : Int) - 1)) = u := ⟨_, rfl⟩
  obtain ⟨v, hv⟩ : ∃ v, within k 0 (w64 ((b.others.length : Int) - 1)) = v := ⟨_, rfl⟩
  have he : prE b i k = askF b (u && v) := by unfold prE oneI othI; rw [hu, hv]
  obtain ⟨e, hE⟩ : ∃ e, askF b (u && v) = e := ⟨_, rfl⟩
  have a3 := c70 b hs (u && v)
  rw [he, hE]
  rw [hu] at a1
  rw [hv] at a2
  rw [hE] at a3
  simp -failIfUnchanged (disch := first | omega | (simp <;> omega) | fail) only [go_sem, simprocAttr]
  refine wcall a1 ?_
  refine tailed (T := ?Tx) (fun tail => ?mx) ?tx
  case mx =>
    cases u with
    | false =>
      simp -failIfUnchanged (disch := first | omega | (simp <;> omega) | fail) only [go_sem, simprocAttr]
      refine wcall a3 ?_
      simp -failIfUnchanged (disch := first | omega | (simp <;> omega) | fail) only [go_sem, simprocAttr]
      exact tail.out
    | true =>
      simp -failIfUnchanged (disch := first | omega | (simp <;> omega) | fail) only [go_sem, simprocAttr]
      refine wcall a2 ?_
      simp -failIfUnchanged (disch := first | omega | (simp <;> omega) | fail) only [go_sem, simprocAttr]
      refine wcall a3 ?_
      simp -failIfUnchanged (disch := first | omega | (simp <;> omega) | fail) only [go_sem, simprocAttr]
      exact tail.out
  case tx =>
    by_cases h0 : e = 0
    · subst h0
      obtain ⟨hc, huv⟩ := pr_0 hE
      rw [Bool.and_eq_true] at huv
      obtain ⟨rfl, rfl⟩ := huv
      have hV := vf_of hc
      obtain ⟨p, rfl, hp⟩ := in_n hV.n1 hu
      obtain ⟨q, rfl, hq⟩ := in_n hV.n2 hv
      have x1 := (one_v hV hp).c
      have x2 := (oth_v hV hq).c
      have hpl := hV.pl
      have hn2 := x2.n
      have a4 := c79 b.late (one b p) (oth b q) (by rw [both_len x1 x2]; exact Nat.le_refl _) (by omega)
      simp -failIfUnchanged (disch := first | omega | (simp <;> omega) | fail) only [go_sem, simprocAttr]
      refine wcall a4 ?_
      cases hcm : comB b.late (one b p) (oth b q) with
      | false =>
        simp -failIfUnchanged (disch := first | omega | (simp <;> omega) | fail) only [go_sem, simprocAttr]
        try simp
      | true =>
        have hfb : fitB (comL (one b p).cord (oth b q).cord) = true := by
          unfold comB at hcm
          simp only [Bool.and_eq_true] at hcm
          exact hcm.2.2
        have a5 := c80 b (bp_of hV) _ (cd_iff.2 (com_v x1 x2 hfb))
        simp -failIfUnchanged (disch := first | omega | (simp <;> omega) | fail) only [go_sem, simprocAttr]
        refine wcall a5 ?_
        simp -failIfUnchanged (disch := first | omega | (simp <;> omega) | fail) only [go_sem, simprocAttr]
        try simp [pcI]
    · have hd : decide (¬ e = 0) = true := decide_eq_true h0
      simp -failIfUnchanged (disch := first | omega | (simp <;> omega) | fail) only [go_sem, simprocAttr, hd]
      simp [h0]

theorem c87 (b : FB) (hb : bpB b = true) (x y : En) (hx : VC1 b x.cord) (hy : VC1 b y.cord) (hn : y.cord.length < 4294967296) (hf : fitB (comL x.cord y.cord) = true) : Ctr Try.prog 87 [FK b, EN x, EN y] (SP (pcI b x y)) := by
  refine ctr_of_wp hmix Try.func87 m87 rfl ?_
  unfold v87 pcI
  have k := c102 x.cord y.cord (by rw [both_len hx hy]; exact Nat.le_refl _) hn
  unfold botR at k
  rw [if_pos hf] at k
  have k2 := c92 b hb _ (cd_iff.2 (com_v hx hy hf))
  simp -failIfUnchanged (disch := first | omega | (simp <;> omega) | fail) only [go_sem, simprocAttr]
  refine wcall k ?_
  simp -failIfUnchanged (disch := first | omega | (simp <;> omega) | fail) only [go_sem, simprocAttr]
  refine wcall k2 ?_
  simp -failIfUnchanged (disch := first | omega | (simp <;> omega) | fail) only [go_sem, simprocAttr]

end Go.Proofs.Ytemnojaoickjfaa


/- All matchings: the recursive closure. -/
set_option linter.unusedSimpArgs false
set_option linter.unusedVariables false
set_option linter.unnecessarySimpa false
namespace Go.Proofs.Ytemnojaoickjfaa
open Go Go.V

/-- An entry of Others is in a pair. -/
def usedB (m : List Pa) (o : Nat) : Bool := m.any fun p => decide (p.other = (o : Int))
/-- All matchings that begin with some pairs, k entries of Ones being left. -/
def mtF (b : FB) : Nat → List Pa → List (List Pa)
  | 0, m => [m]
  | k + 1, m => mtF b k m ++ (List.range b.others.length).flatMap fun o =>
      if usedB m o = false ∧ comB b.late (one b (b.ones.length - (k + 1))) (oth b o) = true then mtF b k (m ++ [⟨((b.ones.length - (k + 1) : Nat) : Int), (o : Int)⟩]) else []
/-- What is taken up of the matchings: the largest so far. -/
def stpL (out : List (List Pa)) (m : List Pa) : List (List Pa) :=
  match out with
  | [] => [m]
  | a :: r => if a.length < m.length then [m] else if m.length = a.length then a :: r ++ [m] else a :: r
def lrgL (b : FB) : List (List Pa) := (mtF b b.ones.length []).foldl stpL []

theorem stpL_len (out : List (List Pa)) (m : List Pa) : (stpL out m).length ≤ out.length + 1 := by
  unfold stpL
  split
  · simp
  · split
    · simp
    · split <;> simp
theorem fold_len : ∀ (l out : List (List Pa)), (l.foldl stpL out).length ≤ out.length + l.length
  | [], out => by simp
  | m :: l, out => by
    rw [List.foldl_cons, List.length_cons]
    have h1 := fold_len l (stpL out m)
    have h2 := stpL_len out m
    omega
theorem fm_len {α : Type} (n c : Nat) (g : Nat → List α) (h : ∀ i, (g i).length ≤ c) : ((List.range n).flatMap g).length ≤ n * c := by
  induction n with
  | zero => simp
  | succ n ih =>
    rw [List.range_succ, List.flatMap_append, List.length_append, Nat.succ_mul]
    have h2 := h n
    simp only [List.flatMap_cons, List.flatMap_nil, List.append_nil]
    omega
theorem mtF_len {b : FB} (h5 : b.others.length ≤ 5) : ∀ (k : Nat) (m : List Pa), (mtF b k m).length ≤ 6 ^ k
  | 0, _ => by simp [mtF]
  | k + 1, m => by
    have h1 := mtF_len h5 k m
    have h2 := fm_len b.others.length (6 ^ k) (fun o => if usedB m o = false ∧ comB b.late (one b (b.ones.length - (k + 1))) (oth b o) = true then mtF b k (m ++ [⟨((b.ones.length - (k + 1) : Nat) : Int), (o : Int)⟩]) else []) fun o => by
      split
      · exact mtF_len h5 k _
      · simp
    have h3 : b.others.length * 6 ^ k ≤ 5 * 6 ^ k := Nat.mul_le_mul_right _ h5
    rw [mtF, List.length_append, Nat.pow_succ]
    omega

/-- The bits that stand for the entries that are in pairs. -/
def bitsOK (u : BitVec 64) (m : List Pa) : Prop := ∀ o : Nat, o < 64 → u.getLsbD o = usedB m o
theorem bits_0 : bitsOK 0 [] := fun o _ => by simp [usedB]
theorem bit_test (u : BitVec 64) (o : Nat) (h : o < 64) : decide ((u >>> min o 64) &&& 1#64 = 1#64) = u.getLsbD o := by
  have e : min o 64 = o := by omega
  rw [e]
  cases hb : u.getLsbD o with
  | true =>
    apply decide_eq_true
    apply BitVec.eq_of_getLsbD_eq
    intro i hi
    simp only [BitVec.getLsbD_and, BitVec.getLsbD_ushiftRight]
    by_cases h0 : i = 0
    · subst h0; simp [hb]
    · simp [BitVec.getLsbD_one, h0]
  | false =>
    apply decide_eq_false
    intro he
    have := congrArg (fun x => x.getLsbD 0) he
    simp [hb] at this
theorem bit_set {u : BitVec 64} {m : List Pa} (hu : bitsOK u m) (i : Int) (o : Nat) (h : o < 64) : bitsOK (u ||| 1#64 <<< min o 64) (m ++ [⟨i, (o : Int)⟩]) := by
  intro j hj
  have e : min o 64 = o := by omega
  rw [e]
  have e2 : usedB (m ++ [⟨i, (o : Int)⟩]) j = (usedB m j || decide (o = j)) := by
    simp only [usedB, List.any_append, List.any_cons, List.any_nil, Bool.or_false]
    congr 1
    apply decide_eq_decide.2
    omega
  rw [e2, ← hu j hj]
  simp only [BitVec.getLsbD_or, BitVec.getLsbD_shiftLeft]
  congr 1
  by_cases hjo : o = j
  · subst hjo; simp [hj]
  · simp [hjo, hj, BitVec.getLsbD_one]
    omega

end Go.Proofs.Ytemnojaoickjfaa


/- The recursive closure of matchings. -/
set_option linter.unusedSimpArgs false
set_option linter.unusedVariables false
set_option linter.unnecessarySimpa false
namespace Go.Proofs.Ytemnojaoickjfaa
open Go Go.V

theorem wop_n {P : Env} {dr : Bool} {d : Option Nat} {op : VOp} {next : AS → Prop} {fr : FrL} {hp : HpL} {tk : TkL} {pd : Option Ex} : WOp P dr ⟨d, op, none⟩ next ⟨fr, hp, tk, pd⟩ = WD P dr d op next ⟨fr, hp, tk, pd⟩ := rfl
theorem wop_g {P : Env} {dr : Bool} {d : Option Nat} {op : VOp} {t : Nat} {w : Bool} {next : AS → Prop} {fr : FrL} {hp : HpL} {tk : TkL} {pd : Option Ex} : WOp P dr ⟨d, op, some (t, w)⟩ next ⟨fr, hp, tk, pd⟩ = WGd P dr (get fr t) w d op next ⟨fr, hp, tk, pd⟩ := rfl
attribute [go_sem] wop_n wop_g

theorem csem_sh {E : Env} {f : FuncId} {sz : Nat} {es : List AV} {md : VM} {r : List AV} {hp : HpL} {tk : TkL} {pd : Option Ex} {Q : AV → HpL → TkL → Option Ex → Prop} (h : CSem E f (.sl sz es .sh :: r) hp tk pd Q) : CSem E f (.sl sz es md :: r) hp tk pd Q :=
  ⟨h.1, fun C0 w0 X K L w vs h1 h2 h3 h4 => h.2 C0 w0 X K L w vs h1 h2 (by simpa using h3) (by
    obtain ⟨C, m', tk', own, hr⟩ := h4
    refine ⟨C, m', tk', own, ?_⟩
    refine { below := hr.below, c0 := hr.c0, cnew := hr.cnew, cval := hr.cval, nc := ⟨hr.nc.k, hr.nc.l, hr.nc.d, hr.nc.nd, hr.nc.dis, hr.nc.m⟩, ext := ?_, size := hr.size, slots := hr.slots, boxes := hr.boxes, mdom := hr.mdom, toks := hr.toks, tdom := hr.tdom, owned := hr.owned, owns := hr.owns }
    intro p hp t
    rcases List.mem_cons.1 hp with rfl | hp
    · have h5 := hr.ext (vs, args0 0 (.sl sz es md :: r)) (by simp) t
      by_cases e : 0 = t
      · subst e
        have h6 := rep_sl h5
        exact h6.toRep
      · simp only [args0, V.get, if_neg e] at h5 ⊢
        exact h5
    · exact hr.ext p (List.mem_cons_of_mem _ hp) t)⟩

abbrev FKc (b : FB) : List AV := [.int b.base, .int b.places, .int b.persons, .int b.late, ES b.ones, ES b.others]
/-- The closure's boxes, ahead of what else there is. -/
abbrev hpO (b : FB) (l : Nat) (R : HpL) : HpL := (2003, ⟨[.clw 114 [] [.ptr 1001 0, .ptr 2002 0, .ptr 2003 0]], false⟩) :: (2002, ⟨[.yld l], false⟩) :: (1001, ⟨FKc b, false⟩) :: R
/-- What was known is known. -/
def LH (hp' hp : HpL) : Prop := ∀ τ : AS, τ.hp = hp → leHp τ hp' hp
def LT (tk' tk : TkL) : Prop := leTk ⟨[], [], [], none⟩ tk' tk
theorem leTk_any {τ τ' : AS} {a : TkL} : ∀ {c : TkL}, leTk τ a c → leTk τ' a c
  | [], _ => trivial
  | (_, _) :: _, h => ⟨h.1, leTk_any h.2⟩
theorem LT_get {a : TkL} : ∀ {c : TkL}, LT a c → ∀ k n, getT c k = some n → getT a k = some n
  | [], _, k, n, h => by simp [getT] at h
  | (x, y) :: r, h, k, n, hk => by
    simp only [getT] at hk
    by_cases e : x = k
    · rw [if_pos e] at hk
      injection hk with hk
      subst hk
      subst e
      exact h.1
    · rw [if_neg e] at hk
      exact LT_get h.2 k n hk
theorem LT_trans {a c : TkL} (h1 : LT a c) : ∀ {d : TkL}, LT c d → LT a d
  | [], _ => trivial
  | (_, _) :: _, h => ⟨LT_get h1 _ _ h.1, LT_trans h1 h.2⟩
theorem LT_new {k n : Nat} {a : TkL} : ∀ {c : TkL}, getT c k = none → LT a c → LT ((k, n) :: a) c
  | [], _, _ => trivial
  | (x, y) :: r, h, h2 => by
    simp only [getT] at h
    by_cases e : x = k
    · rw [if_pos e] at h; cases h
    · rw [if_neg e] at h
      refine ⟨?_, LT_new h h2.2⟩
      simp only [getT]
      rw [if_neg (fun x => e x.symm)]
      exact h2.1

theorem leHp_new {τ : AS} {k : Nat} {x : BX} {a : HpL} : ∀ {c : HpL}, getB c k = none → leHp τ a c → leHp τ ((k, x) :: a) c
  | [], _, _ => trivial
  | (b, y) :: r, h, h2 => by
    simp only [getB] at h
    by_cases e : b = k
    · rw [if_pos e] at h; cases h
    · rw [if_neg e] at h
      refine ⟨?_, h2.2.1, leHp_new h h2.2.2⟩
      simp only [getB]
      rw [if_neg (fun x => e x.symm)]
      exact h2.1

/-- What the yield does with a matching, the memory behind being R of what is taken up. -/
def YOK (b : FB) (l : Nat) (R : List (List Pa) → HpL) (T : YT) (tk0 : TkL) : Prop :=
  ∀ (Xa : List FrL) (out : List (List Pa)) (m : List Pa) (tk : TkL) (post : Bool → HpL → TkL → Option Ex → Prop), out.length < 4000000000 → LT tk tk0 → LT tk tk →
    (∀ hp' tk', LH hp' (hpO b l (R (stpL out m))) → LT tk' tk → post true hp' tk' none) → T Xa [PS m] (hpO b l (R out)) tk post

theorem c114w (b : FB) (hv : VF b) (l : Nat) (R : List (List Pa) → HpL) (T : YT) (tk0 : TkL) (hT : YOK b l R T tk0) (hR : ∀ o, getB (R o) 3011 = none) (hRL : ∀ o, LH (hpO b l (R o)) (hpO b l (R o))) :
    ∀ (k : Nat) (m : List Pa) (u : BitVec 64) (out : List (List Pa)) (j : Nat) (tk : TkL) (X : List FrL), k ≤ b.ones.length → out.length + 6 ^ k ≤ 4000000000 → m.length ≤ b.ones.length - k → bitsOK u m → LT tk tk0 → LT tk tk → (∀ i, j ≤ i → getT tk i = none) →
      (∀ (out : List (List Pa)) (τ : AS), τ.hp = hpO b l (R out) → LT τ.tk tk → leX τ X) →
      CSem ⟨Try.prog, X, some (l, T), false⟩ 114 [PS m, .int ((b.ones.length - k : Nat) : Int), .un u, .ptr 1001 0, .ptr 2002 0, .ptr 2003 0] (hpO b l (R out)) tk none
        (fun r hp' tk' pd' => r = .bool true ∧ LH hp' (hpO b l (R ((mtF b k m).foldl stpL out))) ∧ LT tk' tk ∧ pd' = none) := by
  intro k
  induction k with
  | zero =>
    intro m u out j tk X hk hol hml hu h0 hs hj hX
    refine csem_of_wp hmix Try.func114 (m114r j) rfl rfl ?_
    unfold v114r
    have e : ((b.ones.length - 0 : Nat) : Int) = (b.ones.length : Int) := by simp
    rw [e]
    simp -failIfUnchanged (disch := first | omega | (simp <;> omega) | fail) only [go_sem, simprocAttr]
    refine wyield (hT _ out m tk _ (by simp at hol; omega) h0 hs fun hp' tk' h1 h2 => ?_)
    simp -failIfUnchanged (disch := first | omega | (simp <;> omega) | fail) only [go_sem, simprocAttr]
    exact ⟨h1, h2⟩
  | succ k ih =>
    intro m u out j tk X hk hol hml hu h0 hs hj hX
    obtain ⟨q, hq⟩ : ∃ q, b.ones.length - (k + 1) = q := ⟨_, rfl⟩
    have hq1 : b.ones.length - k = q + 1 := by omega
    have hql : q < b.ones.length := by omega
    have hn1 := hv.n1
    have hn2 := hv.n2
    rw [hq1] at ih
    rw [hq] at hml ⊢
    have e1 : ((q : Nat) : Int) + 1 = ((q + 1 : Nat) : Int) := by omega
    refine csem_of_wp hmix Try.func114 (m114r j) rfl rfl ?_
    unfold v114r
    simp -failIfUnchanged (disch := first | omega | (simp <;> omega) | fail) only [go_sem, simprocAttr]
    refine wcond_dec (fun h => ?_) (fun h => ?_)
    · exfalso; omega
    · simp -failIfUnchanged (disch := first | omega | (simp <;> omega) | fail) only [go_sem, simprocAttr, e1]
      refine wcalli (ih m u out j tk (_ :: X) (by omega) (by rw [Nat.pow_succ] at hol; omega) (by omega) hu h0 hs hj ?_) ?_
      · intro out' τ hτ hτk
        obtain ⟨f, hp, t, p⟩ := τ
        dsimp only at hτ
        subst hτ
        have := hX out' ⟨f, _, t, p⟩ rfl hτk
        simp -failIfUnchanged (disch := first | omega | (simp <;> omega) | fail) only [go_sem, simprocAttr]
        exact this
      · rintro r hp' tk' pd' ⟨rfl, g1, g2, rfl⟩
        obtain ⟨S, hS⟩ : ∃ S : Nat → List (List Pa), ∀ o, S o = ((mtF b k m ++ (List.range o).flatMap fun o => if usedB m o = false ∧ comB b.late (one b q) (oth b o) = true then mtF b k (m ++ [⟨(q : Int), (o : Int)⟩]) else []).foldl stpL out) := ⟨_, fun _ => rfl⟩
        have hS0 : (mtF b k m).foldl stpL out = S 0 := by rw [hS]; simp
        have hSs : ∀ o, S (o + 1) = (if usedB m o = false ∧ comB b.late (one b q) (oth b o) = true then mtF b k (m ++ [⟨(q : Int), (o : Int)⟩]) else []).foldl stpL (S o) := fun o => by
          rw [hS, hS, List.range_succ, List.flatMap_append, ← List.append_assoc, List.foldl_append]
          simp
        have hSn : (mtF b (k + 1) m).foldl stpL out = S b.others.length := by rw [hS, mtF, hq]
        have hSl : ∀ o, (S o).length ≤ out.length + (1 + o) * 6 ^ k := fun o => by
          rw [hS]
          have f1 := fold_len (mtF b k m ++ (List.range o).flatMap fun o => if usedB m o = false ∧ comB b.late (one b q) (oth b o) = true then mtF b k (m ++ [⟨(q : Int), (o : Int)⟩]) else []) out
          have f2 := mtF_len hn2 k m
          have f3 := fm_len o (6 ^ k) (fun o => if usedB m o = false ∧ comB b.late (one b q) (oth b o) = true then mtF b k (m ++ [⟨(q : Int), (o : Int)⟩]) else []) fun o => by
            split
            · exact mtF_len hn2 k _
            · simp
          rw [List.length_append] at f1
          rw [Nat.add_mul, Nat.one_mul]
          omega
        rw [hSn]
        rw [hS0] at g1
        have g3 := g1 ⟨[], _, [], none⟩ rfl
        have g1001 : getB hp' 1001 = some ⟨FKc b, false⟩ := g3.2.2.2.2.1
        simp -failIfUnchanged (disch := first | omega | (simp <;> omega) | fail) only [go_sem, simprocAttr, g1001]
        refine wp_loopY Nat (fun o => ⟨[(0, PS m), (1, .int q), (2, .un u), (3, .ptr 1001 0), (5, .ptr 2003 0), (30, ES b.others), (31, .int b.others.length), (32, .int o)], hpO b l (R (S o)), tk, none⟩) (fun o => o ≤ b.others.length) (fun o => b.others.length - o) 0 (by simp) ?_ (fun o => hX (S o) _ rfl hs) ?_
        · refine ⟨?_, g1 _ rfl, leTk_any g2, rfl⟩
          simp -failIfUnchanged (disch := first | omega | (simp <;> omega) | fail) only [go_sem, simprocAttr]
          try simp
        · intro o ho
          have ho : o ≤ b.others.length := ho
          simp -failIfUnchanged (disch := first | omega | (simp <;> omega) | fail) only [go_sem, simprocAttr]
          refine wcond_dec (fun hc => ?_) (fun hc => ?_)
          · have hlt : o < b.others.length := by omega
            have hbt := bit_test u o (by omega)
            rw [hu o (by omega)] at hbt
            have x1 := (one_v hv hql).c
            have x2 := (oth_v hv hlt).c
            have hpl := hv.pl
            have hx2 := x2.n
            have k79 := c79 b.late (one b q) (oth b o) (by rw [both_len x1 x2]; exact Nat.le_refl _) (by omega)
            have hgo : b.others[o]?.getD default = oth b o := rfl
            have hg1 : b.ones[q]?.getD default = one b q := rfl
            have hss := hSs o
            have hRo := hR (S o)
            have hXS : ∀ o fr, leX ⟨fr, hpO b l (R (S o)), tk, none⟩ X := fun o fr => hX (S o) _ rfl hs
            simp -failIfUnchanged (disch := first | omega | (simp <;> omega) | fail) only [go_sem, simprocAttr, hgo, hbt, hRo]
            cases hub : usedB m o with
            | true =>
              rw [hub, if_neg (by simp), List.foldl_nil] at hss
              simp -failIfUnchanged (disch := first | omega | (simp <;> omega) | fail) only [go_sem, simprocAttr, hub]
              refine lpy_norm (fun x => hXS _ _) ⟨o + 1, by omega, by omega, ?_⟩
              rw [hss]
              refine ⟨?_, leHp_new (by simp [getB, hRo]) (hRL (S o) _ rfl), leTk_any hs, rfl⟩
              simp -failIfUnchanged (disch := first | omega | (simp <;> omega) | fail) only [go_sem, simprocAttr]
              try simp
            | false =>
              simp -failIfUnchanged (disch := first | omega | (simp <;> omega) | fail) only [go_sem, simprocAttr, hub, hg1]
              refine wcall k79 ?_
              simp -failIfUnchanged (disch := first | omega | (simp <;> omega) | fail) only [go_sem, simprocAttr]
              obtain ⟨cm, hcm⟩ : ∃ cm, comB b.late (one b q) (oth b o) = cm := ⟨_, rfl⟩
              rw [hcm]
              rw [hub, hcm] at hss
              refine wopsBW ⟨[(0, PS m), (1, .int q), (2, .un u), (3, .ptr 1001 0), (5, .ptr 2003 0), (10, .int o), (13, .bool cm), (30, ES b.others), (31, .int b.others.length), (32, .int o)], hpO b l (R (S o)), tk, none⟩ ?_ (hXS _ _) ?_
              · refine ⟨?_, leHp_new (by simp [getB, hRo]) (hRL (S o) _ rfl), leTk_any hs, rfl⟩
                simp -failIfUnchanged (disch := first | omega | (simp <;> omega) | fail) only [go_sem, simprocAttr]
                try simp
              · cases cm with
                | false =>
                  rw [if_neg (by simp), List.foldl_nil] at hss
                  simp -failIfUnchanged (disch := first | omega | (simp <;> omega) | fail) only [go_sem, simprocAttr]
                  refine lpy_norm (fun x => hXS _ _) ⟨o + 1, by omega, by omega, ?_⟩
                  rw [hss]
                  refine ⟨?_, hRL (S o) _ rfl, leTk_any hs, rfl⟩
                  simp -failIfUnchanged (disch := first | omega | (simp <;> omega) | fail) only [go_sem, simprocAttr]
                  try simp
                | true =>
                  rw [if_pos ⟨rfl, rfl⟩] at hss
                  simp -failIfUnchanged (disch := first | omega | (simp <;> omega) | fail) only [go_sem, simprocAttr]
                  rw [wsliceF_len (by simp)]
                  simp -failIfUnchanged (disch := first | omega | (simp <;> omega) | fail) only [go_sem, simprocAttr]
                  refine ⟨hj j (Nat.le_refl _), ?_⟩
                  have hpa : m.map PA ++ [AV.agg [AV.int (q : Int), AV.int (o : Int)]] = (m ++ [(⟨(q : Int), (o : Int)⟩ : Pa)]).map PA := by simp
                  simp -failIfUnchanged (disch := first | omega | (simp <;> omega) | fail) only [go_sem, simprocAttr, e1, hpa]
                  have hjn := hj j (Nat.le_refl _)
                  have hSo : (S o).length + 6 ^ k ≤ 4000000000 := by
                    have f1 := hSl o
                    have f2 : (1 + o) * 6 ^ k ≤ 5 * 6 ^ k := Nat.mul_le_mul_right _ (by omega)
                    rw [Nat.pow_succ] at hol
                    omega
                  have hg0 : LT ((j, m.length + 1) :: tk) tk := LT_new hjn hs
                  have hs2 : LT ((j, m.length + 1) :: tk) ((j, m.length + 1) :: tk) := ⟨by simp [getT], hg0⟩
                  refine wcalli (csem_sh (ih (m ++ [⟨(q : Int), (o : Int)⟩]) (u ||| 1#64 <<< min o 64) (S o) (j + 1) ((j, m.length + 1) :: tk) (_ :: X) (by omega) hSo (by simp; omega) (bit_set hu _ o (by omega)) (LT_trans hg0 h0) hs2 ?_ ?_)) ?_
                  · intro i hi
                    simp only [getT]
                    rw [if_neg (by omega)]
                    exact hj i (by omega)
                  · intro out' τ hτ hτk
                    obtain ⟨f, hp, t, p⟩ := τ
                    dsimp only at hτ
                    subst hτ
                    have := hX out' ⟨f, _, t, p⟩ rfl (LT_trans hτk hg0)
                    have htj : getT t j = some (m.length + 1) := LT_get hτk j _ (by simp [getT])
                    simp -failIfUnchanged (disch := first | omega | (simp <;> omega) | fail) only [go_sem, simprocAttr, htj]
                    exact this
                  · rintro r hp2 tk2 pd2 ⟨rfl, g4, g5, rfl⟩
                    simp -failIfUnchanged (disch := first | omega | (simp <;> omega) | fail) only [go_sem, simprocAttr]
                    refine lpy_norm (fun x => hXS _ _) ⟨o + 1, by omega, by omega, ?_⟩
                    rw [hss]
                    refine ⟨?_, g4 _ rfl, leTk_any (LT_trans g5 hg0), rfl⟩
                    simp -failIfUnchanged (disch := first | omega | (simp <;> omega) | fail) only [go_sem, simprocAttr]
                    try simp
          · have e : o = b.others.length := by omega
            subst e
            simp -failIfUnchanged (disch := first | omega | (simp <;> omega) | fail) only [go_sem, simprocAttr]
            exact ⟨hRL _, hs⟩

end Go.Proofs.Ytemnojaoickjfaa


/- All largest matchings. -/
set_option linter.unusedSimpArgs false
set_option linter.unusedVariables false
set_option linter.unnecessarySimpa false
namespace Go.Proofs.Ytemnojaoickjfaa
open Go Go.V

/-- What largest's boxes hold. -/
def outB (b : FB) : List (List Pa) → HpL
  | [] => [(3, ⟨[.sl 1 [] .full], false⟩), (1, ⟨FKc b, false⟩)]
  | a :: r => [(K 35 a.length r.length, ⟨(a :: r).map PS, false⟩), (3, ⟨[.gsl 35 a.length r.length 1 (r.length + 1) false], false⟩), (1, ⟨FKc b, false⟩)]
theorem outB_new (b : FB) (o : List (List Pa)) {k : Nat} (h : k < 1048576) (h1 : k ≠ 1) (h3 : k ≠ 3) : getB (outB b o) k = none := by
  cases o with
  | nil => simp [outB, getB, Ne.symm h1, Ne.symm h3]
  | cons a r => simp [outB, getB, Ne.symm h1, Ne.symm h3, K_ne h]
theorem scopes_ps (τ : AS) (l : List (List Pa)) : scopes τ (l.map PS) := by
  induction l with
  | nil => trivial
  | cons a r ih => exact ⟨trivial, ih⟩
theorem outB_self (b : FB) (l : Nat) (o : List (List Pa)) : LH (hpO b l (outB b o)) (hpO b l (outB b o)) := by
  intro τ hτ
  obtain ⟨f, hp, t, p⟩ := τ
  dsimp only at hτ
  subst hτ
  have hs := scopes_ps ⟨f, hpO b l (outB b o), t, p⟩
  cases o with
  | nil =>
    unfold outB
    simp -failIfUnchanged (disch := first | omega | (simp <;> omega) | fail) only [go_sem, simprocAttr]
    try simp
  | cons a r =>
    unfold outB at hs ⊢
    have h2 := hs r
    simp -failIfUnchanged (disch := first | omega | (simp <;> omega) | fail) only [go_sem, simprocAttr]
    exact h2

theorem chunks_one : ∀ (l pre : List AV), chunks false 1 (pre ++ l) pre.length l.length = l
  | [], _ => rfl
  | x :: l, pre => by
    rw [List.length_cons, chunks]
    have h := chunks_one l (pre ++ [x])
    rw [List.append_assoc, List.length_append] at h
    have e : (pre ++ x :: l)[pre.length]? = some x := by simp
    show chunk false 1 (pre ++ x :: l) pre.length :: chunks false 1 (pre ++ ([x] ++ l)) (pre.length + [x].length) l.length = _
    rw [h]
    simp [chunk]
theorem strip_ps (hp : HpL) (l : List (List Pa)) : (l.map PS).map (strip hp) = l.map PS := by
  rw [List.map_map]
  rfl

theorem c64 (b : FB) (hv : VF b) : Ctr Try.prog 64 [FK b] (.sl 1 ((lrgL b).map PS) .sh) := by
  refine ctr_of_wp hmix Try.func64 m64r rfl ?_
  unfold v64r
  simp -failIfUnchanged (disch := first | omega | (simp <;> omega) | fail) only [go_sem, simprocAttr]
  refine wcall_in hmix Try.func93 m93r rfl ?_
  unfold v93r
  simp -failIfUnchanged (disch := first | omega | (simp <;> omega) | fail) only [go_sem, simprocAttr]
  refine wp_range' (wrangew fun l T hT => ?_)
  refine csem_of_wp hmix Try.func113 m113r rfl rfl ?_
  unfold v113r
  simp -failIfUnchanged (disch := first | omega | (simp <;> omega) | fail) only [go_sem, simprocAttr]
  have hY : YOK b l (outB b) T [(2, 0)] := by
    intro Xa out m tk post hol htk hts hpost
    refine hT Xa [PS m] _ tk post rfl ?_
    cases out with
    | nil =>
      unfold outB
      simp -failIfUnchanged (disch := first | omega | (simp <;> omega) | fail) only [go_sem, simprocAttr]
      refine hpost _ _ ?_ hts
      intro τ hτ
      obtain ⟨f, hp, t, p⟩ := τ
      dsimp only [stpL] at hτ ⊢
      subst hτ
      unfold outB
      simp -failIfUnchanged (disch := first | omega | (simp <;> omega) | fail) only [go_sem, simprocAttr]
      try simp
    | cons a r =>
      have hd : decide ((0 : Int) < ((r.length + 1 : Nat) : Int)) = true := decide_eq_true (by omega)
      have hd2 : decide (((r.length + 1 : Nat) : Int) = 0) = false := decide_eq_false (by omega)
      unfold stpL at hpost
      unfold outB
      simp -failIfUnchanged (disch := first | omega | (simp <;> omega) | fail) only [go_sem, simprocAttr, hd]
      refine wcond_dec (fun h1 => ?_) (fun h1 => ?_)
      · have h1' : a.length < m.length := by omega
        simp only [if_pos h1'] at hpost
        have hne : ¬ a.length = m.length := by omega
        simp -failIfUnchanged (disch := first | omega | (simp <;> omega) | fail) only [go_sem, simprocAttr, hne]
        refine ⟨by simp, hpost _ _ ?_ hts⟩
        intro τ hτ
        obtain ⟨f, hp, t, p⟩ := τ
        dsimp only at hτ
        subst hτ
        unfold outB
        simp -failIfUnchanged (disch := first | omega | (simp <;> omega) | fail) only [go_sem, simprocAttr]
        try simp
      · have h1' : ¬ a.length < m.length := by omega
        simp only [if_neg h1'] at hpost
        simp -failIfUnchanged (disch := first | omega | (simp <;> omega) | fail) only [go_sem, simprocAttr, hd2]
        refine wcond_dec (fun h2 => ?_) (fun h2 => ?_)
        · have h2' : m.length = a.length := by omega
          simp only [if_pos h2'] at hpost
          have hol' : r.length + 1 < 4000000000 := by simpa using hol
          have hca : a :: r ++ [m] = a :: (r ++ [m]) := rfl
          rw [hca] at hpost
          simp -failIfUnchanged (disch := first | omega | (simp <;> omega) | fail) only [go_sem, simprocAttr]
          refine hpost _ _ ?_ hts
          intro τ hτ
          obtain ⟨f, hp, t, p⟩ := τ
          dsimp only at hτ
          subst hτ
          have hsc := scopes_ps ⟨f, hpO b l (outB b (a :: (r ++ [m]))), t, p⟩ (a :: (r ++ [m]))
          dsimp only [outB] at hsc ⊢
          have hlr : (r ++ [m]).length = r.length + 1 := by simp
          have hmr : (a :: (r ++ [m])).map PS = PS a :: (r.map PS ++ [PS m]) := by simp
          rw [hlr, hmr] at hsc ⊢
          simp -failIfUnchanged (disch := first | omega | (simp <;> omega) | fail) only [go_sem, simprocAttr]
          exact hsc.2
        · have h2' : ¬ m.length = a.length := by omega
          simp only [if_neg h2'] at hpost
          simp -failIfUnchanged (disch := first | omega | (simp <;> omega) | fail) only [go_sem, simprocAttr]
          refine hpost _ _ ?_ hts
          exact outB_self b l (a :: r)
  have hw := c114w b hv l (outB b) T [(2, 0)] hY (fun o => outB_new b o (by omega) (by omega) (by omega)) (outB_self b l) b.ones.length [] 0 [] 4000 [(2, 0)]
    [[(5, AV.clw 114 [] [AV.ptr 1001 0, AV.ptr 2002 0, AV.ptr 2003 0]), (3, AV.ptr 2003 0)], [(3, AV.ptr 3 0), (6, AV.clw 113 [] [AV.ptr 1001 0])]]
    (Nat.le_refl _) (by have := Nat.pow_le_pow_right (n := 6) (by omega) hv.n1; simp; omega) (by simp) bits_0 ⟨rfl, trivial⟩ ⟨rfl, trivial⟩ (fun i hi => by simp only [getT]; rw [if_neg (by omega)]) (fun out' τ hτ hτk => by
      obtain ⟨f, hp, t, p⟩ := τ
      dsimp only at hτ
      subst hτ
      cases out' with
      | nil => unfold outB; simp -failIfUnchanged (disch := first | omega | (simp <;> omega) | fail) only [go_sem, simprocAttr]
      | cons a r => unfold outB; simp -failIfUnchanged (disch := first | omega | (simp <;> omega) | fail) only [go_sem, simprocAttr]; try simp)
  rw [Nat.sub_self] at hw
  refine wcalli (csem_sh hw) ?_
  rintro r hp' tk' pd' ⟨rfl, g1, g2, rfl⟩
  change LH hp' (hpO b l (outB b (lrgL b))) at g1
  generalize lrgL b = M at g1 ⊢
  have g := g1 ⟨[], _, [], none⟩ rfl
  cases M with
  | nil =>
    unfold outB at g
    have g3 : getB hp' 3 = some ⟨[.sl 1 [] .full], false⟩ := g.2.2.2.2.2.2.1
    simp -failIfUnchanged (disch := first | omega | (simp <;> omega) | fail) only [go_sem, simprocAttr, g3]
  | cons a r =>
    unfold outB at g
    have gK : getB hp' (K 35 a.length r.length) = some ⟨(a :: r).map PS, false⟩ := g.2.2.2.2.2.2.1
    have g3 : getB hp' 3 = some ⟨[.gsl 35 a.length r.length 1 (r.length + 1) false], false⟩ := g.2.2.2.2.2.2.2.2.1
    simp -failIfUnchanged (disch := first | omega | (simp <;> omega) | fail) only [go_sem, simprocAttr, g3]
    rw [gK]
    dsimp only
    rw [getB_setB, if_pos rfl]
    dsimp only
    rw [strip_ps]
    have hl1 : ((a :: r).map PS).length = r.length + 1 := by simp
    have hch := chunks_one ((a :: r).map PS) []
    rw [List.nil_append, List.length_nil, hl1] at hch
    rw [hl1, if_pos (Nat.le_refl _), hch]
    exact ⟨rfl, rfl⟩

end Go.Proofs.Ytemnojaoickjfaa


/- Fewest, Match; the longest matchings. -/
set_option linter.unusedSimpArgs false
set_option linter.unusedVariables false
set_option linter.unnecessarySimpa false
namespace Go.Proofs.Ytemnojaoickjfaa
open Go Go.V

theorem stpL_ne (out : List (List Pa)) (m : List Pa) : stpL out m ≠ [] := by
  unfold stpL
  split
  · simp
  · split
    · simp
    · split <;> simp
theorem fold_ne : ∀ (l out : List (List Pa)), (out ≠ [] ∨ l ≠ []) → l.foldl stpL out ≠ []
  | [], out, h => by simpa using h
  | m :: l, out, _ => by
    rw [List.foldl_cons]
    exact fold_ne l _ (.inl (stpL_ne out m))
theorem mtF_ne (b : FB) : ∀ (k : Nat) (m : List Pa), mtF b k m ≠ []
  | 0, _ => by simp [mtF]
  | k + 1, m => by
    rw [mtF]
    intro h
    exact mtF_ne b k m (List.append_eq_nil_iff.1 h).1
theorem lrgL_ne (b : FB) : lrgL b ≠ [] := fold_ne _ _ (.inr (mtF_ne b _ _))
/-- A largest matching; how many fines. -/
def fstM (b : FB) : List Pa := (lrgL b)[0]?.getD default
def fewI (b : FB) : Int := (b.ones.length : Int) + b.others.length - (fstM b).length

theorem lrgL_mem_len {b : FB} : ∀ (l out : List (List Pa)) (B : Nat), (∀ x ∈ l, x.length ≤ B) → (∀ x ∈ out, x.length ≤ B) → ∀ x ∈ l.foldl stpL out, x.length ≤ B
  | [], out, B, _, h, x, hx => h x hx
  | m :: l, out, B, h1, h2, x, hx => by
    rw [List.foldl_cons] at hx
    refine lrgL_mem_len (b := b) l (stpL out m) B (fun y hy => h1 y (by simp [hy])) ?_ x hx
    intro y hy
    have hm := h1 m (by simp)
    unfold stpL at hy
    split at hy
    · simp at hy; rw [hy]; exact hm
    · rename_i a r
      split at hy
      · simp at hy; rw [hy]; exact hm
      · split at hy
        · rcases List.mem_append.1 hy with hy | hy
          · exact h2 y hy
          · simp at hy; rw [hy]; exact hm
        · exact h2 y hy
theorem mtF_mlen (b : FB) : ∀ (k : Nat) (m : List Pa), ∀ x ∈ mtF b k m, x.length ≤ m.length + k
  | 0, m, x, hx => by simp [mtF] at hx; rw [hx]; omega
  | k + 1, m, x, hx => by
    rw [mtF] at hx
    rcases List.mem_append.1 hx with hx | hx
    · have := mtF_mlen b k m x hx; omega
    · obtain ⟨o, _, hx⟩ := List.mem_flatMap.1 hx
      split at hx
      · have := mtF_mlen b k _ x hx
        simp at this
        omega
      · simp at hx
theorem fst_len {b : FB} (hv : VF b) : (fstM b).length ≤ 5 := by
  have h1 := lrgL_ne b
  have h2 : fstM b ∈ lrgL b := by
    unfold fstM
    have : 0 < (lrgL b).length := List.length_pos_iff.2 h1
    rw [List.getElem?_eq_getElem this]
    exact List.getElem_mem _
  have h3 := lrgL_mem_len (b := b) (mtF b b.ones.length []) [] b.ones.length (fun x hx => by have := mtF_mlen b _ _ x hx; simpa using this) (fun x hx => by simp at hx) (fstM b) h2
  have := hv.n1
  omega

theorem c67 (b : FB) (hv : VF b) : Ctr Try.prog 67 [FK b] (.int (fewI b)) := by
  refine ctr_of_wp hmix Try.func67 m67 rfl ?_
  unfold v67
  have k1 := c64 b hv
  have hne := lrgL_ne b
  have hf : (lrgL b)[0]?.getD default = fstM b := rfl
  have hl := fst_len hv
  have hn1 := hv.n1
  have hn2 := hv.n2
  have h0 : 0 < (lrgL b).length := List.length_pos_iff.2 hne
  generalize lrgL b = M at k1 hf h0
  have e1 : (M.map PS)[0]?.getD .nul = PS (fstM b) := by
    rw [List.getElem?_eq_getElem h0] at hf
    have hf2 : M[0] = fstM b := hf
    simp [h0, hf2]
  simp -failIfUnchanged (disch := first | omega | (simp <;> omega) | fail) only [go_sem, simprocAttr]
  refine wcall k1 ?_
  simp -failIfUnchanged (disch := first | omega | (simp <;> omega) | fail) only [go_sem, simprocAttr, e1, hf]
  simp [fewI]

def fewR (b : FB) : AV := .tup [.int (if chkB b then fewI b else 0), .int (errF b)]
theorem c28 (b : FB) (hs : SmF b) : Ctr Try.prog 28 [FK b] (fewR b) := by
  refine ctr_of_wp hmix Try.func28 m28 rfl ?_
  unfold v28 fewR
  have k1 := c48 b hs
  unfold errF at k1 ⊢
  cases hc : chkB b with
  | false =>
    rw [hc] at k1
    simp -failIfUnchanged (disch := first | omega | (simp <;> omega) | fail) only [go_sem, simprocAttr]
    refine wcall k1 ?_
    simp -failIfUnchanged (disch := first | omega | (simp <;> omega) | fail) only [go_sem, simprocAttr]
    try simp
  | true =>
    rw [hc] at k1
    simp -failIfUnchanged (disch := first | omega | (simp <;> omega) | fail) only [go_sem, simprocAttr]
    refine wcall k1 ?_
    simp -failIfUnchanged (disch := first | omega | (simp <;> omega) | fail) only [go_sem, simprocAttr]
    refine wcall (c67 b (vf_of hc)) ?_
    simp -failIfUnchanged (disch := first | omega | (simp <;> omega) | fail) only [go_sem, simprocAttr]
    try simp

end Go.Proofs.Ytemnojaoickjfaa


/- Match. -/
set_option linter.unusedSimpArgs false
set_option linter.unusedVariables false
set_option linter.unnecessarySimpa false
namespace Go.Proofs.Ytemnojaoickjfaa
open Go Go.V

theorem fst_at {b : FB} : ((lrgL b).map PS)[0]?.getD .nul = PS (fstM b) := by
  have h0 : 0 < (lrgL b).length := List.length_pos_iff.2 (lrgL_ne b)
  have hf2 : (lrgL b)[0] = fstM b := by unfold fstM; rw [List.getElem?_eq_getElem h0]; rfl
  simp [h0, hf2]
def matR (b : FB) : AV := .tup [PS (if chkB b then fstM b else []), .int (errF b)]
theorem c31 (b : FB) (hs : SmF b) : Ctr Try.prog 31 [FK b] (matR b) := by
  refine ctr_of_wp hmix Try.func31 m31 rfl ?_
  unfold v31 matR
  have k1 := c48 b hs
  unfold errF at k1 ⊢
  cases hc : chkB b with
  | false =>
    rw [hc] at k1
    simp -failIfUnchanged (disch := first | omega | (simp <;> omega) | fail) only [go_sem, simprocAttr]
    refine wcall k1 ?_
    simp -failIfUnchanged (disch := first | omega | (simp <;> omega) | fail) only [go_sem, simprocAttr]
    try simp
  | true =>
    rw [hc] at k1
    have k2 := c64 b (vf_of hc)
    have h0 : 0 < (lrgL b).length := List.length_pos_iff.2 (lrgL_ne b)
    have hf : (lrgL b)[0]?.getD default = fstM b := rfl
    generalize lrgL b = M at k2 h0 hf
    have e1 : (M.map PS)[0]?.getD .nul = PS (fstM b) := by
      rw [List.getElem?_eq_getElem h0] at hf
      have hf2 : M[0] = fstM b := hf
      simp [h0, hf2]
    simp -failIfUnchanged (disch := first | omega | (simp <;> omega) | fail) only [go_sem, simprocAttr]
    refine wcall k1 ?_
    simp -failIfUnchanged (disch := first | omega | (simp <;> omega) | fail) only [go_sem, simprocAttr]
    refine wcall k2 ?_
    simp -failIfUnchanged (disch := first | omega | (simp <;> omega) | fail) only [go_sem, simprocAttr, e1, hf]
    try simp

end Go.Proofs.Ytemnojaoickjfaa


/- Which matchings there are. -/
set_option linter.unusedSimpArgs false
set_option linter.unusedVariables false
set_option linter.unnecessarySimpa false
namespace Go.Proofs.Ytemnojaoickjfaa
open Go Go.V

/-- A matching whose entries of Ones are below n. -/
structure GM (b : FB) (n : Nat) (m : List Pa) : Prop where
  p : ∀ p ∈ m, (0 ≤ p.one ∧ p.one < (n : Int)) ∧ (0 ≤ p.other ∧ p.other < (b.others.length : Int)) ∧ comB b.late (one b p.one.toNat) (oth b p.other.toNat) = true
  o : m.Pairwise fun p q => p.one < q.one
  d : m.Pairwise fun p q => p.other ≠ q.other

theorem gm_nil (b : FB) (n : Nat) : GM b n [] := ⟨fun p h => by simp at h, List.Pairwise.nil, List.Pairwise.nil⟩
theorem gm_mono {b : FB} {n n' : Nat} {m : List Pa} (h : GM b n m) (hn : n ≤ n') : GM b n' m := ⟨fun p hp => by have := h.p p hp; exact ⟨by omega, this.2⟩, h.o, h.d⟩
theorem used_iff {m : List Pa} {o : Nat} : usedB m o = false ↔ ∀ p ∈ m, p.other ≠ (o : Int) := by
  unfold usedB
  rw [List.any_eq_false]
  simp
theorem gm_snoc {b : FB} {q o : Nat} {m : List Pa} (h : GM b q m) (ho : o < b.others.length) (hu : usedB m o = false) (hc : comB b.late (one b q) (oth b o) = true) : GM b (q + 1) (m ++ [⟨(q : Int), (o : Int)⟩]) := by
  refine ⟨fun p hp => ?_, ?_, ?_⟩
  · rcases List.mem_append.1 hp with hp | hp
    · have := h.p p hp
      exact ⟨by omega, this.2⟩
    · simp at hp
      subst hp
      exact ⟨by dsimp only; omega, by dsimp only; omega, by simpa using hc⟩
  · rw [List.pairwise_append]
    exact ⟨h.o, List.pairwise_singleton _ _, fun p hp q hq => by simp at hq; subst hq; have := h.p p hp; dsimp only; omega⟩
  · rw [List.pairwise_append]
    exact ⟨h.d, List.pairwise_singleton _ _, fun p hp q hq => by simp at hq; subst hq; exact used_iff.1 hu p hp⟩

/-- All that are found are matchings that begin so. -/
theorem mtF_good {b : FB} : ∀ (k : Nat) (m : List Pa), k ≤ b.ones.length → GM b (b.ones.length - k) m → ∀ t ∈ mtF b k m, GM b b.ones.length t ∧ ∃ s, t = m ++ s ∧ ∀ p ∈ s, ((b.ones.length - k : Nat) : Int) ≤ p.one
  | 0, m, _, hm, t, ht => by
    simp [mtF] at ht
    subst ht
    exact ⟨by simpa using hm, [], by simp, fun p hp => by simp at hp⟩
  | k + 1, m, hk, hm, t, ht => by
    have hq : b.ones.length - k = b.ones.length - (k + 1) + 1 := by omega
    rw [mtF] at ht
    rcases List.mem_append.1 ht with ht | ht
    · obtain ⟨h1, s, h2, h3⟩ := mtF_good k m (by omega) (gm_mono hm (by omega)) t ht
      exact ⟨h1, s, h2, fun p hp => by have := h3 p hp; omega⟩
    · obtain ⟨o, ho, ht⟩ := List.mem_flatMap.1 ht
      have ho := List.mem_range.1 ho
      split at ht
      · rename_i hc
        have hg := gm_snoc hm ho hc.1 hc.2
        rw [← hq] at hg
        obtain ⟨h1, s, h2, h3⟩ := mtF_good k _ (by omega) hg t ht
        refine ⟨h1, ⟨((b.ones.length - (k + 1) : Nat) : Int), (o : Int)⟩ :: s, by rw [h2]; simp, fun p hp => ?_⟩
        rcases List.mem_cons.1 hp with rfl | hp
        · exact Int.le_refl _
        · have := h3 p hp; omega
      · simp at ht

/-- All matchings that begin so are found. -/
theorem mtF_all {b : FB} : ∀ (k : Nat) (m s : List Pa), k ≤ b.ones.length → GM b b.ones.length (m ++ s) → (∀ p ∈ s, ((b.ones.length - k : Nat) : Int) ≤ p.one) → m ++ s ∈ mtF b k m
  | 0, m, s, _, hg, hs => by
    cases s with
    | nil => simp [mtF]
    | cons p r =>
      have h1 := hs p (by simp)
      have h2 := (hg.p p (by simp)).1
      omega
  | k + 1, m, s, hk, hg, hs => by
    rw [mtF, List.mem_append]
    cases s with
    | nil => exact .inl (mtF_all k m [] (by omega) hg (fun p hp => by simp at hp))
    | cons p r =>
      have hp := hg.p p (by simp)
      have hp1 := hs p (by simp)
      have hr : ∀ x ∈ r, p.one < x.one := by
        have h1 := (List.pairwise_append.1 hg.o).2.1
        exact (List.pairwise_cons.1 h1).1
      by_cases e : p.one = ((b.ones.length - (k + 1) : Nat) : Int)
      · right
        rw [List.mem_flatMap]
        have hpe : p = ⟨((b.ones.length - (k + 1) : Nat) : Int), ((p.other.toNat : Nat) : Int)⟩ := by
          cases p
          simp only at e hp ⊢
          rw [e]
          congr 1
          omega
        refine ⟨p.other.toNat, List.mem_range.2 (by omega), ?_⟩
        have hu : usedB m p.other.toNat = false := by
          rw [used_iff]
          intro x hx
          have h1 := (List.pairwise_append.1 hg.d).2.2 x hx p (by simp)
          have : ((p.other.toNat : Nat) : Int) = p.other := by omega
          rw [this]
          exact h1
        have hc := hp.2.2
        rw [show p.one.toNat = b.ones.length - (k + 1) by omega] at hc
        rw [if_pos ⟨hu, hc⟩, ← hpe]
        have h2 : m ++ p :: r = (m ++ [p]) ++ r := by simp
        rw [h2]
        rw [h2] at hg
        exact mtF_all k (m ++ [p]) r (by omega) hg (fun x hx => by have := hr x hx; omega)
      · left
        refine mtF_all k m (p :: r) (by omega) hg (fun x hx => ?_)
        rcases List.mem_cons.1 hx with rfl | hx
        · omega
        · have := hr x hx; omega

theorem mem_mtF {b : FB} {t : List Pa} : t ∈ mtF b b.ones.length [] ↔ GM b b.ones.length t := by
  constructor
  · intro h
    exact (mtF_good b.ones.length [] (Nat.le_refl _) (gm_nil b _) t h).1
  · intro h
    have := mtF_all (b := b) b.ones.length [] t (Nat.le_refl _) (by simpa using h) (fun p hp => by have := (h.p p hp).1; omega)
    simpa using this

end Go.Proofs.Ytemnojaoickjfaa


/- The largest matchings. -/
set_option linter.unusedSimpArgs false
set_option linter.unusedVariables false
set_option linter.unnecessarySimpa false
namespace Go.Proofs.Ytemnojaoickjfaa
open Go Go.V

theorem fold_spec : ∀ (l out : List (List Pa)) (L : Nat), out ≠ [] → (∀ x ∈ out, x.length = L) →
    ∃ M, (∀ x ∈ out ++ l, x.length ≤ M) ∧ (∃ x ∈ out ++ l, x.length = M) ∧ l.foldl stpL out = (out ++ l).filter fun x => decide (x.length = M)
  | [], out, L, hne, hL => by
    refine ⟨L, fun x hx => by have := hL x (by simpa using hx); omega, ?_, ?_⟩
    · cases out with
      | nil => exact absurd rfl hne
      | cons a r => exact ⟨a, by simp, hL a (by simp)⟩
    · rw [List.foldl_nil, List.append_nil]
      exact (List.filter_eq_self.2 fun x hx => decide_eq_true (hL x hx)).symm
  | m :: l, out, L, hne, hL => by
    rw [List.foldl_cons]
    cases out with
    | nil => exact absurd rfl hne
    | cons a r =>
      have ha := hL a (by simp)
      by_cases h1 : a.length < m.length
      · have hs : stpL (a :: r) m = [m] := by simp [stpL, h1]
        rw [hs]
        obtain ⟨M, q1, q2, q3⟩ := fold_spec l [m] m.length (by simp) (fun x hx => by simp at hx; rw [hx])
        have hm := q1 m (by simp)
        refine ⟨M, fun x hx => ?_, ?_, ?_⟩
        · rcases List.mem_append.1 hx with hx | hx
          · have := hL x hx; omega
          · exact q1 x (by simpa using hx)
        · obtain ⟨x, hx, e⟩ := q2
          exact ⟨x, List.mem_append.2 (.inr (by simpa using hx)), e⟩
        · rw [q3, List.filter_append (l₁ := a :: r)]
          have e : ((a :: r).filter fun x => decide (x.length = M)) = [] := by
            rw [List.filter_eq_nil_iff]
            intro x hx
            have := hL x hx
            simp only [decide_eq_true_eq]
            omega
          rw [e, List.nil_append]
          rfl
      · by_cases h2 : m.length = a.length
        · have hs : stpL (a :: r) m = a :: r ++ [m] := by simp [stpL, h1, h2]
          rw [hs]
          obtain ⟨M, q1, q2, q3⟩ := fold_spec l (a :: r ++ [m]) L (by simp) (fun x hx => by
            rcases List.mem_append.1 hx with hx | hx
            · exact hL x hx
            · simp at hx; rw [hx]; omega)
          have e : a :: r ++ [m] ++ l = a :: r ++ m :: l := by simp
          rw [e] at q1 q2 q3
          exact ⟨M, q1, q2, q3⟩
        · have hs : stpL (a :: r) m = a :: r := by simp [stpL, h1, h2]
          rw [hs]
          obtain ⟨M, q1, q2, q3⟩ := fold_spec l (a :: r) L (by simp) hL
          have haM := q1 a (by simp)
          refine ⟨M, fun x hx => ?_, ?_, ?_⟩
          · rcases List.mem_append.1 hx with hx | hx
            · exact q1 x (List.mem_append.2 (.inl hx))
            · rcases List.mem_cons.1 hx with rfl | hx
              · omega
              · exact q1 x (List.mem_append.2 (.inr hx))
          · obtain ⟨x, hx, e⟩ := q2
            refine ⟨x, ?_, e⟩
            rcases List.mem_append.1 hx with hx | hx
            · exact List.mem_append.2 (.inl hx)
            · exact List.mem_append.2 (.inr (by simp [hx]))
          · rw [q3, List.filter_append, List.filter_append]
            congr 1
            have : decide (m.length = M) = false := decide_eq_false (by omega)
            rw [List.filter_cons, this]
            rfl

/-- All matchings. -/
def allM (b : FB) : List (List Pa) := mtF b b.ones.length []
theorem lrgL_spec (b : FB) : ∃ M, (∀ x ∈ allM b, x.length ≤ M) ∧ (∃ x ∈ allM b, x.length = M) ∧ lrgL b = (allM b).filter fun x => decide (x.length = M) := by
  have hne := mtF_ne b b.ones.length []
  unfold lrgL allM
  cases h : mtF b b.ones.length [] with
  | nil => exact absurd h hne
  | cons m l =>
    rw [List.foldl_cons]
    exact fold_spec l [m] m.length (by simp) (fun x hx => by simp at hx; rw [hx])
theorem fst_most (b : FB) : fstM b ∈ lrgL b ∧ (∀ x ∈ allM b, x.length ≤ (fstM b).length) ∧ lrgL b = (allM b).filter fun x => decide (x.length = (fstM b).length) := by
  obtain ⟨M, q1, q2, q3⟩ := lrgL_spec b
  have h0 : 0 < (lrgL b).length := List.length_pos_iff.2 (lrgL_ne b)
  have hm : fstM b ∈ lrgL b := by
    unfold fstM
    rw [List.getElem?_eq_getElem h0]
    exact List.getElem_mem _
  have hm2 := hm
  rw [q3, List.mem_filter] at hm2
  have e : (fstM b).length = M := of_decide_eq_true hm2.2
  rw [e]
  exact ⟨hm, q1, q3⟩
/-- The largest matchings, in words. -/
theorem mem_lrg {b : FB} {t : List Pa} : t ∈ lrgL b ↔ GM b b.ones.length t ∧ ∀ x, GM b b.ones.length x → x.length ≤ t.length := by
  obtain ⟨h1, h2, h3⟩ := fst_most b
  have hall : ∀ x, x ∈ allM b ↔ GM b b.ones.length x := fun x => mem_mtF
  rw [h3, List.mem_filter, hall, decide_eq_true_eq]
  constructor
  · rintro ⟨a1, a2⟩
    exact ⟨a1, fun x hx => by have := h2 x ((hall x).2 hx); omega⟩
  · rintro ⟨a1, a2⟩
    refine ⟨a1, ?_⟩
    have k1 := h2 t ((hall t).2 a1)
    have k2 : GM b b.ones.length (fstM b) := by
      rw [h3, List.mem_filter] at h1
      exact (hall _).1 h1.1
    have k3 := a2 _ k2
    omega

end Go.Proofs.Ytemnojaoickjfaa


/- Days. -/
set_option linter.unusedSimpArgs false
set_option linter.unusedVariables false
set_option linter.unnecessarySimpa false
namespace Go.Proofs.Ytemnojaoickjfaa
open Go Go.V

/-- The sum of the days by which the first k pairs differ. -/
def dsK (b : FB) (t : List Pa) : Nat → Int
  | 0 => 0
  | k + 1 => dsK b t k + dayI (one b (t[k]?.getD default).one.toNat) (oth b (t[k]?.getD default).other.toNat)
def dsI (b : FB) (t : List Pa) : Int := dsK b t t.length
theorem day_bd {b : FB} {x y : En} (hx : VE b x) (hy : VE b y) : 0 ≤ dayI x y ∧ dayI x y ≤ 99 := by
  have h1 := hx.d
  have h2 := hy.d
  unfold dayI
  rw [w64_id (by omega), w64_id (by omega)]
  omega
theorem gm_at {b : FB} {n : Nat} {t : List Pa} (h : GM b n t) {k : Nat} (hk : k < t.length) : ∃ i j : Nat, t[k]?.getD default = ⟨(i : Int), (j : Int)⟩ ∧ i < n ∧ j < b.others.length ∧ comB b.late (one b i) (oth b j) = true := by
  obtain ⟨h1, h2, h3⟩ := h.p _ (mem_getD hk)
  obtain ⟨x, hx⟩ : ∃ x, t[k]?.getD default = x := ⟨_, rfl⟩
  rw [hx] at h1 h2 h3
  obtain ⟨p, q⟩ := x
  dsimp only at h1 h2 h3
  refine ⟨p.toNat, q.toNat, ?_, by omega, by omega, h3⟩
  rw [hx]
  congr 1 <;> omega
theorem dsK_bd {b : FB} (hv : VF b) {t : List Pa} (h : GM b b.ones.length t) : ∀ k, k ≤ t.length → 0 ≤ dsK b t k ∧ dsK b t k ≤ 99 * (k : Int)
  | 0, _ => by simp [dsK]
  | k + 1, hk => by
    have ih := dsK_bd hv h k (by omega)
    obtain ⟨i, j, e, hi, hj, _⟩ := gm_at h (k := k) (by omega)
    have := day_bd (one_v hv hi) (oth_v hv hj)
    unfold dsK
    rw [e]
    simp only [Int.toNat_natCast]
    omega
/-- The least of the first k, or -1. -/
def ldK (b : FB) (l : List (List Pa)) : Nat → Int
  | 0 => -1
  | k + 1 => if ldK b l k < 0 ∨ dsI b (l[k]?.getD default) < ldK b l k then dsI b (l[k]?.getD default) else ldK b l k

theorem lrg_small {b : FB} (hv : VF b) : (lrgL b).length < 4000000000 := by
  have h1 := fold_len (mtF b b.ones.length []) []
  have h2 := mtF_len hv.n2 b.ones.length []
  have h3 := Nat.pow_le_pow_right (n := 6) (by omega) hv.n1
  unfold lrgL
  simp at h1
  omega

theorem c17 (b : FB) (hs : SmF b) : Ctr Try.prog 17 [FK b] (.tup [.int (if chkB b then ldK b (lrgL b) (lrgL b).length else 0), .int (errF b)]) := by
  refine ctr_of_wp hmix Try.func17 m17 rfl ?_
  unfold v17
  have k1 := c48 b hs
  unfold errF at k1 ⊢
  cases hc : chkB b with
  | false =>
    rw [hc] at k1
    simp -failIfUnchanged (disch := first | omega | (simp <;> omega) | fail) only [go_sem, simprocAttr]
    refine wcall k1 ?_
    simp -failIfUnchanged (disch := first | omega | (simp <;> omega) | fail) only [go_sem, simprocAttr]
    try simp
  | true =>
    rw [hc] at k1
    have hv := vf_of hc
    have k2 := c64 b hv
    have hsm := lrg_small hv
    have hgm : ∀ x ∈ lrgL b, GM b b.ones.length x := fun x hx => (mem_lrg.1 hx).1
    generalize lrgL b = M at k2 hsm hgm ⊢
    simp -failIfUnchanged (disch := first | omega | (simp <;> omega) | fail) only [go_sem, simprocAttr]
    refine wcall k1 ?_
    simp -failIfUnchanged (disch := first | omega | (simp <;> omega) | fail) only [go_sem, simprocAttr]
    refine wcall k2 ?_
    simp -failIfUnchanged (disch := first | omega | (simp <;> omega) | fail) only [go_sem, simprocAttr]
    refine wp_loop' Nat (fun i => ⟨[(1, .ptr 1 0), (5, .int (ldK b M i)), (17, .sl 1 (M.map PS) .sh), (18, .int M.length), (19, .int i)], [(1, ⟨FKc b, false⟩)], [], none⟩) (fun i => i ≤ M.length) (fun i => M.length - i) 0 (by simp) (by simp -failIfUnchanged (disch := first | omega | (simp <;> omega) | fail) only [go_sem, simprocAttr]; simp [ldK]) ?_
    intro i hi
    have hi : i ≤ M.length := hi
    simp -failIfUnchanged (disch := first | omega | (simp <;> omega) | fail) only [go_sem, simprocAttr]
    refine wcond_dec (fun h1 => ?_) (fun h1 => ?_)
    · have hil : i < M.length := by omega
      obtain ⟨t, ht⟩ : ∃ t, M[i]?.getD default = t := ⟨_, rfl⟩
      have htm : t ∈ M := by rw [← ht]; exact mem_getD hil
      have hg := hgm t htm
      have e1 : (M.map PS)[i]?.getD .nul = PS t := by
        have : M[i] = t := by rw [← ht, List.getElem?_eq_getElem hil]; rfl
        simp [hil, this]
      simp -failIfUnchanged (disch := first | omega | (simp <;> omega) | fail) only [go_sem, simprocAttr, e1, ht]
      have htl : t.length ≤ 4294967295 := by
        have := hv.n1
        have h2 := mtF_mlen b b.ones.length [] t (mem_mtF.2 hg)
        simp at h2
        omega
      refine wp_loop' Nat (fun j => ⟨[(1, .ptr 1 0), (5, .int (ldK b M i)), (8, .int (dsK b t j)), (17, .sl 1 (M.map PS) .sh), (18, .int M.length), (19, .int i), (23, PS t), (24, .int t.length), (25, .int j)], [(1, ⟨FKc b, false⟩)], [], none⟩) (fun j => j ≤ t.length) (fun j => t.length - j) 0 (by simp) (by simp -failIfUnchanged (disch := first | omega | (simp <;> omega) | fail) only [go_sem, simprocAttr]; simp [dsK]) ?_
      intro j hj
      have hj : j ≤ t.length := hj
      simp -failIfUnchanged (disch := first | omega | (simp <;> omega) | fail) only [go_sem, simprocAttr]
      refine wcond_dec (fun h2 => ?_) (fun h2 => ?_)
      · have hjl : j < t.length := by omega
        obtain ⟨p, q, e, hp, hq, _⟩ := gm_at hg hjl
        have hb := dsK_bd hv hg j hj
        have hd := day_bd (one_v hv hp) (oth_v hv hq)
        have hn1 := hv.n1
        have h5 : t.length ≤ 5 := by
          have h2 := mtF_mlen b b.ones.length [] t (mem_mtF.2 hg)
          simp at h2
          omega
        have hst : dsK b t (j + 1) = dsK b t j + dayI (one b p) (oth b q) := by
          simp only [dsK, e, Int.toNat_natCast]
        have g1 : b.ones[p]?.getD default = one b p := rfl
        have g2 : b.others[q]?.getD default = oth b q := rfl
        simp -failIfUnchanged (disch := first | omega | (simp <;> omega) | fail) only [go_sem, simprocAttr, e, g1, g2]
        refine wcall (c65 (one b p) (oth b q)) ?_
        simp -failIfUnchanged (disch := first | omega | (simp <;> omega) | fail) only [go_sem, simprocAttr]
        refine ⟨j + 1, by dsimp only; omega, by dsimp only; omega, ?_⟩
        dsimp only
        rw [hst]
        simp -failIfUnchanged (disch := first | omega | (simp <;> omega) | fail) only [go_sem, simprocAttr]
        try simp
      · have ej : j = t.length := by omega
        subst ej
        have hds : dsK b t t.length = dsI b t := rfl
        rw [hds]
        obtain ⟨D, hD⟩ : ∃ D, dsI b t = D := ⟨_, rfl⟩
        obtain ⟨Z, hZ⟩ : ∃ Z, ldK b M i = Z := ⟨_, rfl⟩
        have hls : ldK b M (i + 1) = if Z < 0 ∨ D < Z then D else Z := by
          simp only [ldK, ht, hD, hZ]
        simp -failIfUnchanged (disch := first | omega | (simp <;> omega) | fail) only [go_sem, simprocAttr, hD, hZ]
        refine WGd_bool (fun h3 => ?_) (fun h3 => ?_)
        · have h3' : ¬ Z < 0 := fun x => by rw [decide_eq_true x] at h3; cases h3
          simp -failIfUnchanged (disch := first | omega | (simp <;> omega) | fail) only [go_sem, simprocAttr, h3]
          refine wcond_dec (fun h4 => ?_) (fun h4 => ?_)
          · rw [if_pos (.inr h4)] at hls
            simp -failIfUnchanged (disch := first | omega | (simp <;> omega) | fail) only [go_sem, simprocAttr]
            refine ⟨i + 1, by dsimp only; omega, by dsimp only; omega, ?_⟩
            dsimp only
            rw [hls]
            simp -failIfUnchanged (disch := first | omega | (simp <;> omega) | fail) only [go_sem, simprocAttr]
            try simp
          · rw [if_neg (fun x => x.elim h3' h4)] at hls
            simp -failIfUnchanged (disch := first | omega | (simp <;> omega) | fail) only [go_sem, simprocAttr]
            refine ⟨i + 1, by dsimp only; omega, by dsimp only; omega, ?_⟩
            dsimp only
            rw [hls]
            simp -failIfUnchanged (disch := first | omega | (simp <;> omega) | fail) only [go_sem, simprocAttr]
            try simp
        · have h3' : Z < 0 := of_decide_eq_true h3
          rw [if_pos (.inl h3')] at hls
          simp -failIfUnchanged (disch := first | omega | (simp <;> omega) | fail) only [go_sem, simprocAttr, h3]
          refine ⟨i + 1, by dsimp only; omega, by dsimp only; omega, ?_⟩
          dsimp only
          rw [hls]
          simp -failIfUnchanged (disch := first | omega | (simp <;> omega) | fail) only [go_sem, simprocAttr]
          try simp
    · have e : i = M.length := by omega
      subst e
      simp -failIfUnchanged (disch := first | omega | (simp <;> omega) | fail) only [go_sem, simprocAttr]
      try simp

end Go.Proofs.Ytemnojaoickjfaa


/- Entries, within; the document's sums of days. -/
set_option linter.unusedSimpArgs false
set_option linter.unusedVariables false
set_option linter.unnecessarySimpa false
namespace Go.Proofs.Ytemnojaoickjfaa
open Go Go.V

theorem c39 (b : FB) (n : Int) : Ctr Try.prog 39 [FK b, .int n] (ES (if n = 1 then b.others else b.ones)) := by
  refine ctr_of_wp hmix Try.func39 m39 rfl ?_
  unfold v39
  simp -failIfUnchanged (disch := first | omega | (simp <;> omega) | fail) only [go_sem, simprocAttr]
  refine wcond_dec (fun h => ?_) (fun h => ?_)
  · rw [if_pos h]
    simp -failIfUnchanged (disch := first | omega | (simp <;> omega) | fail) only [go_sem, simprocAttr]
  · rw [if_neg h]
    simp -failIfUnchanged (disch := first | omega | (simp <;> omega) | fail) only [go_sem, simprocAttr]

theorem c40 (a l : Sp) : Ctr Try.prog 40 [SP a, SP l] (.bool (decide (l.lo ≤ a.lo) && (decide (a.lo ≤ a.hi) && decide (a.hi ≤ l.hi)))) := by
  refine ctr_of_wp hmix Try.func40 m40 rfl ?_
  unfold v40
  simp -failIfUnchanged (disch := first | omega | (simp <;> omega) | fail) only [go_sem, simprocAttr]
  refine WGd_bool (fun h => ?_) (fun h => ?_)
  · simp -failIfUnchanged (disch := first | omega | (simp <;> omega) | fail) only [go_sem, simprocAttr, h]
    refine WGd_bool (fun h2 => ?_) (fun h2 => ?_)
    · simp -failIfUnchanged (disch := first | omega | (simp <;> omega) | fail) only [go_sem, simprocAttr, h, h2]
      try simp
    · simp -failIfUnchanged (disch := first | omega | (simp <;> omega) | fail) only [go_sem, simprocAttr, h, h2]
      try simp
  · simp -failIfUnchanged (disch := first | omega | (simp <;> omega) | fail) only [go_sem, simprocAttr, h]
    try simp

theorem c91 (a c : Sp) : Ctr Try.prog 91 [SP a, SP c] (SP ⟨w64 (a.lo + c.lo), w64 (a.hi + c.hi)⟩) := by
  refine ctr_of_wp hmix Try.func91 m91 rfl ?_
  unfold v91
  simp -failIfUnchanged (disch := first | omega | (simp <;> omega) | fail) only [go_sem, simprocAttr]
  try simp

end Go.Proofs.Ytemnojaoickjfaa


/- The document's matchings: what it asks. -/
set_option linter.unusedSimpArgs false
set_option linter.unusedVariables false
set_option linter.unnecessarySimpa false
namespace Go.Proofs.Ytemnojaoickjfaa
open Go Go.V

/-- InOne, InOther, HasPair. -/
theorem any_take {α : Type} [Inhabited α] {p : α → Bool} {l : List α} {i : Nat} (hi : i < l.length) (hpre : ∀ x ∈ l.take i, p x = false) (h : p (l[i]?.getD default) = true) : l.any p = true := by
  rw [List.any_eq_true]
  exact ⟨_, mem_getD hi, h⟩
theorem any_none {α : Type} {p : α → Bool} {l : List α} (hpre : ∀ x ∈ l, p x = false) : l.any p = false := by
  rw [List.any_eq_false]
  intro x hx
  rw [hpre x hx]
  exact Bool.false_ne_true

theorem c44 (l : List Pa) (n : Int) (hl : l.length < 4294967296) : Ctr Try.prog 44 [PS l, .int n] (.bool (l.any fun p => decide (p.one = n))) := by
  refine ctr_of_wp hmix Try.func44 m44 rfl ?_
  unfold v44
  simp -failIfUnchanged (disch := first | omega | (simp <;> omega) | fail) only [go_sem, simprocAttr]
  refine wp_loop' Nat (fun i => ⟨[(0, PS l), (1, .int n), (5, .int i)], [], [], none⟩) (fun i => i ≤ l.length ∧ ∀ x ∈ l.take i, decide (x.one = n) = false) (fun i => l.length - i) 0 (by simp) (by simp -failIfUnchanged (disch := first | omega | (simp <;> omega) | fail) only [go_sem, simprocAttr]; try simp) ?_
  rintro i ⟨hi, hpre⟩
  simp -failIfUnchanged (disch := first | omega | (simp <;> omega) | fail) only [go_sem, simprocAttr]
  refine wcond_dec (fun h => ?_) (fun h => ?_)
  · have hlt : i < l.length := by omega
    obtain ⟨x, hx⟩ : ∃ x, l[i]?.getD default = x := ⟨_, rfl⟩
    simp -failIfUnchanged (disch := first | omega | (simp <;> omega) | fail) only [go_sem, simprocAttr, hx]
    refine wcond_dec (fun h2 => ?_) (fun h2 => ?_)
    · rw [any_take (p := fun p => decide (p.one = n)) hlt hpre (by rw [hx]; exact decide_eq_true h2)]
      simp -failIfUnchanged (disch := first | omega | (simp <;> omega) | fail) only [go_sem, simprocAttr]
    · simp -failIfUnchanged (disch := first | omega | (simp <;> omega) | fail) only [go_sem, simprocAttr]
      refine ⟨i + 1, ⟨by omega, take_succ_all (p := fun p : Pa => decide (p.one = n)) hlt hpre (by rw [hx]; exact decide_eq_false h2)⟩, by dsimp only; omega, ?_⟩
      simp -failIfUnchanged (disch := first | omega | (simp <;> omega) | fail) only [go_sem, simprocAttr]
      try simp
  · have e : i = l.length := by omega
    rw [e, List.take_length] at hpre
    rw [any_none (p := fun p : Pa => decide (p.one = n)) hpre]
    simp -failIfUnchanged (disch := first | omega | (simp <;> omega) | fail) only [go_sem, simprocAttr]

theorem c45 (l : List Pa) (n : Int) (hl : l.length < 4294967296) : Ctr Try.prog 45 [PS l, .int n] (.bool (l.any fun p => decide (p.other = n))) := by
  refine ctr_of_wp hmix Try.func45 m45 rfl ?_
  unfold v45
  simp -failIfUnchanged (disch := first | omega | (simp <;> omega) | fail) only [go_sem, simprocAttr]
  refine wp_loop' Nat (fun i => ⟨[(0, PS l), (1, .int n), (5, .int i)], [], [], none⟩) (fun i => i ≤ l.length ∧ ∀ x ∈ l.take i, decide (x.other = n) = false) (fun i => l.length - i) 0 (by simp) (by simp -failIfUnchanged (disch := first | omega | (simp <;> omega) | fail) only [go_sem, simprocAttr]; try simp) ?_
  rintro i ⟨hi, hpre⟩
  simp -failIfUnchanged (disch := first | omega | (simp <;> omega) | fail) only [go_sem, simprocAttr]
  refine wcond_dec (fun h => ?_) (fun h => ?_)
  · have hlt : i < l.length := by omega
    obtain ⟨x, hx⟩ : ∃ x, l[i]?.getD default = x := ⟨_, rfl⟩
    simp -failIfUnchanged (disch := first | omega | (simp <;> omega) | fail) only [go_sem, simprocAttr, hx]
    refine wcond_dec (fun h2 => ?_) (fun h2 => ?_)
    · rw [any_take (p := fun p => decide (p.other = n)) hlt hpre (by rw [hx]; exact decide_eq_true h2)]
      simp -failIfUnchanged (disch := first | omega | (simp <;> omega) | fail) only [go_sem, simprocAttr]
    · simp -failIfUnchanged (disch := first | omega | (simp <;> omega) | fail) only [go_sem, simprocAttr]
      refine ⟨i + 1, ⟨by omega, take_succ_all (p := fun p : Pa => decide (p.other = n)) hlt hpre (by rw [hx]; exact decide_eq_false h2)⟩, by dsimp only; omega, ?_⟩
      simp -failIfUnchanged (disch := first | omega | (simp <;> omega) | fail) only [go_sem, simprocAttr]
      try simp
  · have e : i = l.length := by omega
    rw [e, List.take_length] at hpre
    rw [any_none (p := fun p : Pa => decide (p.other = n)) hpre]
    simp -failIfUnchanged (disch := first | omega | (simp <;> omega) | fail) only [go_sem, simprocAttr]

end Go.Proofs.Ytemnojaoickjfaa


/- HasPair; the sum of the days of a list (the document). -/
set_option linter.unusedSimpArgs false
set_option linter.unusedVariables false
set_option linter.unnecessarySimpa false
namespace Go.Proofs.Ytemnojaoickjfaa
open Go Go.V

end Go.Proofs.Ytemnojaoickjfaa


/- Numbers of clusters: bounds; narrower clusters. -/
set_option linter.unusedSimpArgs false
set_option linter.unusedVariables false
set_option linter.unnecessarySimpa false
namespace Go.Proofs.Ytemnojaoickjfaa
open Go Go.V

theorem numL_bd {base : Int} (hb : 2 ≤ base ∧ base ≤ 10) : ∀ (l : List Int) (k : Nat) (n : Int), (∀ d ∈ l, 0 ≤ d ∧ d < base) → 0 ≤ n → n < ((10 ^ k : Nat) : Int) → k + l.length ≤ 4 →
    0 ≤ l.foldl (fun n d => w64 (w64 (n * base) + d)) n ∧ l.foldl (fun n d => w64 (w64 (n * base) + d)) n < ((10 ^ (k + l.length) : Nat) : Int)
  | [], k, n, _, h1, h2, _ => ⟨h1, h2⟩
  | d :: r, k, n, hd, h1, h2, hk => by
    simp only [List.length_cons] at hk
    have h10 : 10 ^ k ≤ 1000 := by
      have : k = 0 ∨ k = 1 ∨ k = 2 ∨ k = 3 := by omega
      rcases this with rfl | rfl | rfl | rfl <;> decide
    obtain ⟨d1, d2⟩ := hd d (by simp)
    have m1 : 0 ≤ n * base := Int.mul_nonneg h1 (by omega)
    have m2 : n * base ≤ n * 10 := Int.mul_le_mul_of_nonneg_left hb.2 h1
    have e1 : w64 (n * base) = n * base := w64_id (by omega)
    have e2 : w64 (n * base + d) = n * base + d := w64_id (by omega)
    have h3 : n * base + d < ((10 ^ (k + 1) : Nat) : Int) := by
      rw [Nat.pow_succ]
      omega
    have := numL_bd hb r (k + 1) (n * base + d) (fun x hx => hd x (by simp [hx])) (by omega) h3 (by omega)
    simp only [List.foldl_cons, e1, e2, List.length_cons]
    rw [show k + (r.length + 1) = k + 1 + r.length by omega]
    exact this

/-! Greater digits, a greater number. -/
def le2 (base : Int) : List Int → List Int → Prop
  | [], [] => True
  | a :: x, b :: y => (0 ≤ a ∧ a ≤ b ∧ b < base) ∧ le2 base x y
  | _, _ => False

theorem numL_mono {base : Int} (hb : 2 ≤ base ∧ base ≤ 10) : ∀ (x y : List Int) (k : Nat) (n m : Int), le2 base x y → 0 ≤ n → n ≤ m → m < ((10 ^ k : Nat) : Int) → k + x.length ≤ 4 →
    x.foldl (fun n d => w64 (w64 (n * base) + d)) n ≤ y.foldl (fun n d => w64 (w64 (n * base) + d)) m
  | [], [], _, _, _, _, _, h, _, _ => h
  | a :: x, c :: y, k, n, m, ⟨hac, hxy⟩, hn, hnm, hm, hk => by
    simp only [List.length_cons] at hk
    have h10 : 10 ^ k ≤ 1000 := by
      have : k = 0 ∨ k = 1 ∨ k = 2 ∨ k = 3 := by omega
      rcases this with rfl | rfl | rfl | rfl <;> decide
    have n1 : 0 ≤ n * base := Int.mul_nonneg hn (by omega)
    have n2 : n * base ≤ m * base := Int.mul_le_mul_of_nonneg_right hnm (by omega)
    have n3 : m * base ≤ m * 10 := Int.mul_le_mul_of_nonneg_left hb.2 (by omega)
    have e1 : w64 (n * base) = n * base := w64_id (by omega)
    have e2 : w64 (n * base + a) = n * base + a := w64_id (by omega)
    have e3 : w64 (m * base) = m * base := w64_id (by omega)
    have e4 : w64 (m * base + c) = m * base + c := w64_id (by omega)
    simp only [List.foldl_cons, e1, e2, e3, e4]
    exact numL_mono hb x y (k + 1) _ _ hxy (by omega) (by omega) (by rw [Nat.pow_succ]; omega) (by omega)


/-- Clusters within others. -/
def inL (x y : List Sp) : Prop := x.length = y.length ∧ ∀ i, i < x.length → (y[i]?.getD default).lo ≤ (x[i]?.getD default).lo ∧ (x[i]?.getD default).hi ≤ (y[i]?.getD default).hi
theorem inL_refl (x : List Sp) : inL x x := ⟨rfl, fun _ _ => ⟨Int.le_refl _, Int.le_refl _⟩⟩
theorem le2_lo {base : Int} : ∀ (x y : List Sp), inL x y → (∀ s ∈ y, 0 ≤ s.lo) → (∀ s ∈ x, s.lo < base) → le2 base (y.map fun s => s.lo) (x.map fun s => s.lo)
  | [], [], _, _, _ => trivial
  | [], _ :: _, h, _, _ => by simp [inL] at h
  | _ :: _, [], h, _, _ => by simp [inL] at h
  | s :: x, t :: y, h, h1, h2 => by
    have h0 := h.2 0 (by simp)
    simp at h0
    refine ⟨⟨h1 t (by simp), h0.1, h2 s (by simp)⟩, le2_lo x y ⟨by simpa using h.1, fun i hi => ?_⟩ (fun s hs => h1 s (by simp [hs])) fun s hs => h2 s (by simp [hs])⟩
    have := h.2 (i + 1) (by simpa using hi)
    simpa using this
theorem le2_hi {base : Int} : ∀ (x y : List Sp), inL x y → (∀ s ∈ x, 0 ≤ s.hi) → (∀ s ∈ y, s.hi < base) → le2 base (x.map fun s => s.hi) (y.map fun s => s.hi)
  | [], [], _, _, _ => trivial
  | [], _ :: _, h, _, _ => by simp [inL] at h
  | _ :: _, [], h, _, _ => by simp [inL] at h
  | s :: x, t :: y, h, h1, h2 => by
    have h0 := h.2 0 (by simp)
    simp at h0
    refine ⟨⟨h1 s (by simp), h0.2, h2 t (by simp)⟩, le2_hi x y ⟨by simpa using h.1, fun i hi => ?_⟩ (fun s hs => h1 s (by simp [hs])) fun s hs => h2 s (by simp [hs])⟩
    have := h.2 (i + 1) (by simpa using hi)
    simpa using this
theorem le2_lh {base : Int} : ∀ (x : List Sp), (∀ s ∈ x, 0 ≤ s.lo ∧ s.lo ≤ s.hi ∧ s.hi < base) → le2 base (x.map fun s => s.lo) (x.map fun s => s.hi)
  | [], _ => trivial
  | s :: x, h => ⟨h s (by simp), le2_lh x fun s hs => h s (by simp [hs])⟩

/-- Narrower clusters, a narrower span of numbers. -/
theorem ends_mono {b : FB} (hbb : 2 ≤ b.base ∧ b.base ≤ 10) (hp : b.places ≤ 4) {x y : List Sp} (hx : VC1 b x) (hy : VC1 b y) (h : inL x y) :
    (endsL b.base y).lo ≤ (endsL b.base x).lo ∧ (endsL b.base x).hi ≤ (endsL b.base y).hi := by
  have hn := hx.n
  have hm := hy.n
  rw [ends_num, ends_num]
  constructor
  · exact numL_mono hbb _ _ 0 0 0 (le2_lo x y h (fun s hs => (hy.s s hs).1) fun s hs => by have := hx.s s hs; omega) (by omega) (by omega) (by decide) (by rw [List.length_map]; omega)
  · exact numL_mono hbb _ _ 0 0 0 (le2_hi x y h (fun s hs => by have := hx.s s hs; omega) fun s hs => (hy.s s hs).2.2) (by omega) (by omega) (by decide) (by rw [List.length_map]; omega)
theorem ends_bd {b : FB} (hv : VF b) {x : List Sp} (hx : VC1 b x) : 0 ≤ (endsL b.base x).lo ∧ (endsL b.base x).lo ≤ (endsL b.base x).hi ∧ (endsL b.base x).hi < 10000 := by
  have hn := hx.n
  have hp := hv.pl
  have hbb := hv.bs
  rw [ends_num]
  have p4 : ∀ k, k ≤ 4 → ((10 ^ k : Nat) : Int) ≤ 10000 := fun k hk => by
    have : k = 0 ∨ k = 1 ∨ k = 2 ∨ k = 3 ∨ k = 4 := by omega
    rcases this with rfl | rfl | rfl | rfl | rfl <;> decide
  have b1 := numL_bd hbb (x.map fun s => s.lo) 0 0 (fun d hd => by obtain ⟨s, hs, rfl⟩ := List.mem_map.1 hd; have := hx.s s hs; omega) (by omega) (by decide) (by rw [List.length_map]; omega)
  have b2 := numL_bd hbb (x.map fun s => s.hi) 0 0 (fun d hd => by obtain ⟨s, hs, rfl⟩ := List.mem_map.1 hd; have := hx.s s hs; omega) (by omega) (by decide) (by rw [List.length_map]; omega)
  have b3 := numL_mono hbb _ _ 0 0 0 (le2_lh x hx.s) (by omega) (by omega) (by decide) (by rw [List.length_map]; omega)
  have b4 := p4 (0 + (x.map fun s => s.hi).length) (by rw [List.length_map]; omega)
  unfold numL
  dsimp only at *
  omega

end Go.Proofs.Ytemnojaoickjfaa


/- What a person owes by a matching. -/
set_option linter.unusedSimpArgs false
set_option linter.unusedVariables false
set_option linter.unnecessarySimpa false
namespace Go.Proofs.Ytemnojaoickjfaa
open Go Go.V

def addS (a c : Sp) : Sp := ⟨a.lo + c.lo, a.hi + c.hi⟩
abbrev inO (t : List Pa) (i : Int) : Bool := t.any fun p => decide (p.one = i)
abbrev inT (t : List Pa) (j : Int) : Bool := t.any fun p => decide (p.other = j)
/-- What the first k entries of Ones add. -/
def ow1K (b : FB) (t : List Pa) (who : Int) : Nat → Sp
  | 0 => ⟨0, 0⟩
  | i + 1 => if inO t i = false ∧ (one b i).who = who then addS (ow1K b t who i) (endsL b.base (one b i).cord) else ow1K b t who i
/-- The pence of an entry of Others. -/
def othS (b : FB) (t : List Pa) (j : Nat) : Sp :=
  if idxF (fun p : Pa => decide (p.other = (j : Int))) t < 0 then endsL b.base (oth b j).cord
  else pcI b (one b (t[(idxF (fun p : Pa => decide (p.other = (j : Int))) t).toNat]?.getD default).one.toNat) (oth b j)
def ow2K (b : FB) (t : List Pa) (who : Int) (s : Sp) : Nat → Sp
  | 0 => s
  | j + 1 => if (oth b j).who = who then addS (ow2K b t who s j) (othS b t j) else ow2K b t who s j
def owdI (b : FB) (t : List Pa) (who : Int) : Sp := ow2K b t who (ow1K b t who b.ones.length) b.others.length

theorem c97 (p : Pa) (i : Int) : Ctr Try.prog 97 [PA p, .ref 1 [.agg [.int i]] 0 0] (.bool (decide (p.one = i))) := by
  refine ctr_of_wp hmix Try.func97 m97 rfl ?_
  unfold v97
  simp -failIfUnchanged (disch := first | omega | (simp <;> omega) | fail) only [go_sem, simprocAttr]
  try simp
theorem c99 (p : Pa) (i : Int) : Ctr Try.prog 99 [PA p, .ref 1 [.agg [.int i]] 0 0] (.bool (decide (p.other = i))) := by
  refine ctr_of_wp hmix Try.func99 m99 rfl ?_
  unfold v99
  simp -failIfUnchanged (disch := first | omega | (simp <;> omega) | fail) only [go_sem, simprocAttr]
  try simp

/-- What is known of a span. -/
structure SpB (s : Sp) (n : Int) : Prop where
  l : 0 ≤ s.lo
  m : s.lo ≤ s.hi
  h : s.hi ≤ 10000 * n
theorem spB_add {s t : Sp} {n : Int} (h1 : SpB s n) (h2 : 0 ≤ t.lo ∧ t.lo ≤ t.hi ∧ t.hi < 10000) : SpB (addS s t) (n + 1) := by
  have := h1.l
  have := h1.m
  have := h1.h
  unfold addS
  exact ⟨by dsimp only; omega, by dsimp only; omega, by dsimp only; omega⟩
theorem spB_le {s : Sp} {n m : Int} (h1 : SpB s n) (h : n ≤ m) : SpB s m := ⟨h1.l, h1.m, by have := h1.h; omega⟩
theorem ow1_bd {b : FB} (hv : VF b) (t : List Pa) (who : Int) : ∀ k : Nat, k ≤ b.ones.length → SpB (ow1K b t who k) k
  | 0, _ => ⟨Int.le_refl _, Int.le_refl _, by simp [ow1K]⟩
  | k + 1, hk => by
    have ih := ow1_bd hv t who k (by omega)
    unfold ow1K
    split
    · exact spB_le (spB_add ih (ends_bd hv (one_v hv (by omega)).c)) (by omega)
    · exact spB_le ih (by omega)
theorem com_v2 {b : FB} (hv : VF b) {i j : Nat} (hi : i < b.ones.length) (hj : j < b.others.length) (h : comB b.late (one b i) (oth b j) = true) : VC1 b (comL (one b i).cord (oth b j).cord) := by
  refine com_v (one_v hv hi).c (oth_v hv hj).c ?_
  unfold comB at h
  simp only [Bool.and_eq_true] at h
  exact h.2.2
theorem idx_at {α : Type} [Inhabited α] {p : α → Bool} {l : List α} (h : ¬ idxF p l < 0) : ∃ k : Nat, idxF p l = k ∧ k < l.length ∧ p (l[k]?.getD default) = true := by
  unfold idxF at h ⊢
  cases ha : l.any p with
  | false => rw [ha] at h; simp at h
  | true =>
    have hlt : l.findIdx p < l.length := List.findIdx_lt_length.2 (by simpa using ha)
    refine ⟨l.findIdx p, by simp, hlt, ?_⟩
    rw [List.getElem?_eq_getElem hlt]
    exact List.findIdx_getElem (w := hlt)
theorem oth_bd {b : FB} (hv : VF b) {t : List Pa} (hg : GM b b.ones.length t) {j : Nat} (hj : j < b.others.length) : 0 ≤ (othS b t j).lo ∧ (othS b t j).lo ≤ (othS b t j).hi ∧ (othS b t j).hi < 10000 := by
  unfold othS
  split
  · exact ends_bd hv (oth_v hv hj).c
  · rename_i h
    obtain ⟨k, h1, h2, h3⟩ := idx_at h
    obtain ⟨i, j', e, hi, hj', hc⟩ := gm_at hg h2
    rw [h1, Int.toNat_natCast, e]
    rw [e] at h3
    have h3 := of_decide_eq_true h3
    dsimp only at h3
    have : j' = j := by omega
    subst this
    simp only [Int.toNat_natCast]
    exact ends_bd hv (com_v2 hv hi hj' hc)
theorem ow2_bd {b : FB} (hv : VF b) {t : List Pa} (hg : GM b b.ones.length t) (who : Int) {s : Sp} {n : Int} (hs : SpB s n) : ∀ k : Nat, k ≤ b.others.length → SpB (ow2K b t who s k) (n + k)
  | 0, _ => by simpa [ow2K] using hs
  | k + 1, hk => by
    have ih := ow2_bd hv hg who hs k (by omega)
    unfold ow2K
    split
    · exact spB_le (spB_add ih (oth_bd hv hg (by omega))) (by omega)
    · exact spB_le ih (by omega)

theorem c95w {X : List FrL} {b : FB} (hb : bpB b = true) {l : List Sp} (hl : cdB b l = true) (he : 0 ≤ (endsL b.base l).lo ∧ (endsL b.base l).lo ≤ (endsL b.base l).hi ∧ (endsL b.base l).hi < 10000) (x : En) (who : Int) {o : Sp} {n : Int} (ho : SpB o n) (hn : n ≤ 100) {hp : HpL} {tk : TkL}
    (h4 : getB hp 4 = some ⟨FKc b, false⟩) (h5 : getB hp 5 = some ⟨[.int who], false⟩) (h7 : getB hp 7 = some ⟨[.int o.lo, .int o.hi], false⟩) (g5 : getB hp 1005 = none) (g7 : getB hp 1007 = none) :
    CSem ⟨Try.prog, X, none, false⟩ 95 [EN x, SS l, .ptr 5 0, .ptr 4 0, .ptr 7 0] hp tk none (fun _ hp' tk' pd' => ∃ p q, hp' = cond (decide (x.who = who)) ((1007, p) :: (1005, q) :: setB 7 ⟨[.int (addS o (endsL b.base l)).lo, .int (addS o (endsL b.base l)).hi], false⟩ hp) ((1005, q) :: hp) ∧ tk' = tk ∧ pd' = none) := by
  refine csem_of_wp hmix Try.func95 m95w rfl rfl ?_
  unfold v95w
  have := ho.l
  have := ho.m
  have := ho.h
  obtain ⟨g, hg⟩ : ∃ g, decide (x.who = who) = g := ⟨_, rfl⟩
  rw [hg]
  simp -failIfUnchanged (disch := first | omega | (simp <;> omega) | fail) only [go_sem, simprocAttr, g5, g7, h4, h5, h7, hg]
  cases g with
  | true =>
    simp -failIfUnchanged (disch := first | omega | (simp <;> omega) | fail) only [go_sem, simprocAttr, g5, g7, h4, h5, h7]
    refine wcall (c80 b hb l hl) ?_
    simp -failIfUnchanged (disch := first | omega | (simp <;> omega) | fail) only [go_sem, simprocAttr, g5, g7, h4, h5, h7]
    exact ⟨_, _, rfl⟩
  | false =>
    simp -failIfUnchanged (disch := first | omega | (simp <;> omega) | fail) only [go_sem, simprocAttr]
    exact ⟨⟨[], false⟩, _, rfl⟩

end Go.Proofs.Ytemnojaoickjfaa


/- owed. -/
set_option linter.unusedSimpArgs false
set_option linter.unusedVariables false
set_option linter.unnecessarySimpa false
namespace Go.Proofs.Ytemnojaoickjfaa
open Go Go.V

theorem gm_len {b : FB} {t : List Pa} (hg : GM b b.ones.length t) : t.length ≤ b.ones.length := by
  have h2 := mtF_mlen b b.ones.length [] t (mem_mtF.2 hg)
  simpa using h2

theorem c72 (b : FB) (hv : VF b) (t : List Pa) (hg : GM b b.ones.length t) (who : Int) : Ctr Try.prog 72 [PS t, FK b, .int who] (SP (owdI b t who)) := by
  refine ctr_of_wp hmix Try.func72 m72w rfl ?_
  unfold v72w
  have htl := gm_len hg
  have hn1 := hv.n1
  have hn2 := hv.n2
  have hbp := bp_of hv
  simp -failIfUnchanged (disch := first | omega | (simp <;> omega) | fail) only [go_sem, simprocAttr]
  refine wp_loop' Nat (fun i => ⟨[(0, PS t), (4, .ptr 4 0), (6, .ptr 6 0), (7, .ptr 7 0), (8, .clw 95 [] [.ptr 5 0, .ptr 4 0, .ptr 7 0]), (18, ES b.ones), (19, .int b.ones.length), (20, .int i)],
      [(7, ⟨[.int (ow1K b t who i).lo, .int (ow1K b t who i).hi], false⟩), (6, ⟨[.int 0, .int 0], false⟩), (5, ⟨[.int who], false⟩), (4, ⟨FKc b, false⟩)], [], none⟩) (fun i => i ≤ b.ones.length) (fun i => b.ones.length - i) 0 (by simp) (by simp -failIfUnchanged (disch := first | omega | (simp <;> omega) | fail) only [go_sem, simprocAttr]; simp [ow1K]) ?_
  intro i hi
  have hi : i ≤ b.ones.length := hi
  simp -failIfUnchanged (disch := first | omega | (simp <;> omega) | fail) only [go_sem, simprocAttr]
  refine wcond_dec (fun h1 => ?_) (fun h1 => ?_)
  · have hil : i < b.ones.length := by omega
    have k1 := c96 t 97 [.ref 1 [.agg [.int i]] 0 0] (fun p => decide (p.one = (i : Int))) (fun x _ => c97 x i) (by omega)
    have hgo : b.ones[i]?.getD default = one b i := rfl
    have hve := one_v hv hil
    have hst : ow1K b t who (i + 1) = if inO t i = false ∧ (one b i).who = who then addS (ow1K b t who i) (endsL b.base (one b i).cord) else ow1K b t who i := rfl
    have hbd := ow1_bd hv t who i (by omega)
    generalize ow1K b t who i = S at *
    simp -failIfUnchanged (disch := first | omega | (simp <;> omega) | fail) only [go_sem, simprocAttr, hgo]
    refine wcall k1 ?_
    obtain ⟨u, hu⟩ : ∃ u, inO t i = u := ⟨_, rfl⟩
    rw [hu] at hst
    have hu2 : (t.any fun p => decide (p.one = (i : Int))) = u := hu
    rw [hu2]
    cases u with
    | true =>
      rw [if_neg (by simp)] at hst
      simp -failIfUnchanged (disch := first | omega | (simp <;> omega) | fail) only [go_sem, simprocAttr]
      refine ⟨i + 1, by dsimp only; omega, by dsimp only; omega, ?_⟩
      dsimp only
      rw [hst]
      simp -failIfUnchanged (disch := first | omega | (simp <;> omega) | fail) only [go_sem, simprocAttr]
      try simp
      try exact ⟨rfl, rfl, rfl, rfl⟩
    | false =>
      simp -failIfUnchanged (disch := first | omega | (simp <;> omega) | fail) only [go_sem, simprocAttr]
      refine wcalli (c95w (n := i) hbp (cd_iff.2 hve.c) (ends_bd hv hve.c) (one b i) who hbd (by omega) rfl rfl rfl rfl rfl) ?_
      rintro r hp' tk' pd' ⟨u1, u2, rfl, rfl, rfl⟩
      by_cases hw : (one b i).who = who
      · rw [if_pos ⟨rfl, hw⟩] at hst
        rw [decide_eq_true hw]
        simp -failIfUnchanged (disch := first | omega | (simp <;> omega) | fail) only [go_sem, simprocAttr]
        refine ⟨i + 1, by dsimp only; omega, by dsimp only; omega, ?_⟩
        dsimp only
        rw [hst]
        simp -failIfUnchanged (disch := first | omega | (simp <;> omega) | fail) only [go_sem, simprocAttr]
        try simp
        try exact ⟨rfl, rfl, rfl, rfl⟩
      · rw [if_neg (fun x => hw x.2)] at hst
        rw [decide_eq_false hw]
        simp -failIfUnchanged (disch := first | omega | (simp <;> omega) | fail) only [go_sem, simprocAttr]
        refine ⟨i + 1, by dsimp only; omega, by dsimp only; omega, ?_⟩
        dsimp only
        rw [hst]
        simp -failIfUnchanged (disch := first | omega | (simp <;> omega) | fail) only [go_sem, simprocAttr]
        try simp
        try exact ⟨rfl, rfl, rfl, rfl⟩
  · have e : i = b.ones.length := by omega
    subst e
    have hbd0 := ow1_bd hv t who b.ones.length (Nat.le_refl _)
    unfold owdI
    obtain ⟨S0, hS0⟩ : ∃ S0, ow1K b t who b.ones.length = S0 := ⟨_, rfl⟩
    rw [hS0] at hbd0 ⊢
    simp -failIfUnchanged (disch := first | omega | (simp <;> omega) | fail) only [go_sem, simprocAttr]
    refine wp_loop' Nat (fun i => ⟨[(0, PS t), (4, .ptr 4 0), (6, .ptr 6 0), (7, .ptr 7 0), (8, .clw 95 [] [.ptr 5 0, .ptr 4 0, .ptr 7 0]), (36, ES b.others), (37, .int b.others.length), (38, .int i)],
        [(7, ⟨[.int (ow2K b t who S0 i).lo, .int (ow2K b t who S0 i).hi], false⟩), (6, ⟨[.int 0, .int 0], false⟩), (5, ⟨[.int who], false⟩), (4, ⟨FKc b, false⟩)], [], none⟩) (fun i => i ≤ b.others.length) (fun i => b.others.length - i) 0 (by simp) (by simp -failIfUnchanged (disch := first | omega | (simp <;> omega) | fail) only [go_sem, simprocAttr]; simp [ow2K]) ?_
    intro i hi
    have hi : i ≤ b.others.length := hi
    simp -failIfUnchanged (disch := first | omega | (simp <;> omega) | fail) only [go_sem, simprocAttr]
    refine wcond_dec (fun h2 => ?_) (fun h2 => ?_)
    · have hil : i < b.others.length := by omega
      have k1 := c98 t 99 [.ref 1 [.agg [.int i]] 0 0] (fun p => decide (p.other = (i : Int))) (fun x _ => c99 x i) (by omega)
      have hgo : b.others[i]?.getD default = oth b i := rfl
      have hve := oth_v hv hil
      have hst : ow2K b t who S0 (i + 1) = if (oth b i).who = who then addS (ow2K b t who S0 i) (othS b t i) else ow2K b t who S0 i := rfl
      have hbd := ow2_bd hv hg who hbd0 i (by omega)
      have hob := oth_bd hv hg hil
      have hot : othS b t i = if idxF (fun p : Pa => decide (p.other = (i : Int))) t < 0 then endsL b.base (oth b i).cord
        else pcI b (one b (t[(idxF (fun p : Pa => decide (p.other = (i : Int))) t).toNat]?.getD default).one.toNat) (oth b i) := rfl
      generalize ow2K b t who S0 i = S at *
      simp -failIfUnchanged (disch := first | omega | (simp <;> omega) | fail) only [go_sem, simprocAttr, hgo]
      refine wcall k1 ?_
      obtain ⟨x, hx⟩ : ∃ x, idxF (fun p : Pa => decide (p.other = (i : Int))) t = x := ⟨_, rfl⟩
      rw [hx] at hot ⊢
      simp -failIfUnchanged (disch := first | omega | (simp <;> omega) | fail) only [go_sem, simprocAttr]
      refine wcond_dec (fun h3 => ?_) (fun h3 => ?_)
      · rw [if_pos h3] at hot
        rw [hot] at hst
        simp -failIfUnchanged (disch := first | omega | (simp <;> omega) | fail) only [go_sem, simprocAttr]
        refine wcalli (c95w (n := (b.ones.length : Int) + i) hbp (cd_iff.2 hve.c) (ends_bd hv hve.c) (oth b i) who hbd (by omega) rfl rfl rfl rfl rfl) ?_
        rintro r hp' tk' pd' ⟨u1, u2, rfl, rfl, rfl⟩
        by_cases hw : (oth b i).who = who
        · rw [if_pos hw] at hst
          rw [decide_eq_true hw]
          simp -failIfUnchanged (disch := first | omega | (simp <;> omega) | fail) only [go_sem, simprocAttr]
          refine ⟨i + 1, by dsimp only; omega, by dsimp only; omega, ?_⟩
          dsimp only
          rw [hst]
          simp -failIfUnchanged (disch := first | omega | (simp <;> omega) | fail) only [go_sem, simprocAttr]
          try simp
          try exact ⟨rfl, rfl, rfl, rfl⟩
        · rw [if_neg hw] at hst
          rw [decide_eq_false hw]
          simp -failIfUnchanged (disch := first | omega | (simp <;> omega) | fail) only [go_sem, simprocAttr]
          refine ⟨i + 1, by dsimp only; omega, by dsimp only; omega, ?_⟩
          dsimp only
          rw [hst]
          simp -failIfUnchanged (disch := first | omega | (simp <;> omega) | fail) only [go_sem, simprocAttr]
          try simp
          try exact ⟨rfl, rfl, rfl, rfl⟩
      · rw [if_neg h3] at hot
        obtain ⟨k, e1, hk, hkp⟩ := idx_at (p := fun p : Pa => decide (p.other = (i : Int))) (l := t) (by rw [hx]; exact h3)
        rw [hx] at e1
        subst e1
        obtain ⟨p, q, e, hp, hq, hc⟩ := gm_at hg hk
        rw [e] at hkp
        have hkp := of_decide_eq_true hkp
        dsimp only at hkp
        have : q = i := by omega
        subst this
        rw [Int.toNat_natCast, e] at hot
        simp only [Int.toNat_natCast] at hot
        have hvp := one_v hv hp
        have k79 := c79 b.late (one b p) (oth b q) (by rw [both_len hvp.c hve.c]; exact Nat.le_refl _) (by have := hve.c.n; have := hv.pl; omega)
        have hgp : b.ones[p]?.getD default = one b p := rfl
        have hvc := com_v2 hv hp hq hc
        have hpb := ends_bd hv hvc
        have hpc : endsL b.base (comL (one b p).cord (oth b q).cord) = othS b t q := hot.symm
        simp -failIfUnchanged (disch := first | omega | (simp <;> omega) | fail) only [go_sem, simprocAttr, e, hgp]
        refine wcall k79 ?_
        simp -failIfUnchanged (disch := first | omega | (simp <;> omega) | fail) only [go_sem, simprocAttr]
        refine wcalli (c95w (n := (b.ones.length : Int) + q) hbp (cd_iff.2 hvc) hpb (oth b q) who hbd (by omega) rfl rfl rfl rfl rfl) ?_
        rintro r hp' tk' pd' ⟨u1, u2, rfl, rfl, rfl⟩
        by_cases hw : (oth b q).who = who
        · rw [if_pos hw] at hst
          rw [decide_eq_true hw]
          simp -failIfUnchanged (disch := first | omega | (simp <;> omega) | fail) only [go_sem, simprocAttr]
          refine ⟨q + 1, by dsimp only; omega, by dsimp only; omega, ?_⟩
          dsimp only
          rw [hst]
          simp -failIfUnchanged (disch := first | omega | (simp <;> omega) | fail) only [go_sem, simprocAttr]
          try simp
          try exact ⟨rfl, rfl, rfl, rfl⟩
          try (rw [hpc]; exact ⟨rfl, rfl, rfl, rfl⟩)
        · rw [if_neg hw] at hst
          rw [decide_eq_false hw]
          simp -failIfUnchanged (disch := first | omega | (simp <;> omega) | fail) only [go_sem, simprocAttr]
          refine ⟨q + 1, by dsimp only; omega, by dsimp only; omega, ?_⟩
          dsimp only
          rw [hst]
          simp -failIfUnchanged (disch := first | omega | (simp <;> omega) | fail) only [go_sem, simprocAttr]
          try simp
          try exact ⟨rfl, rfl, rfl, rfl⟩
    · have e : i = b.others.length := by omega
      subst e
      simp -failIfUnchanged (disch := first | omega | (simp <;> omega) | fail) only [go_sem, simprocAttr]
      try simp
      try exact ⟨rfl, rfl, rfl, rfl⟩

end Go.Proofs.Ytemnojaoickjfaa


/- Owed. -/
set_option linter.unusedSimpArgs false
set_option linter.unusedVariables false
set_option linter.unnecessarySimpa false
namespace Go.Proofs.Ytemnojaoickjfaa
open Go Go.V

/-- Between what is owed by the first k of some matchings. -/
def rgK (b : FB) (who : Int) (l : List (List Pa)) : Nat → Sp
  | 0 => owdI b (l[0]?.getD default) who
  | k + 1 => ⟨min (rgK b who l k).lo (owdI b (l[k]?.getD default) who).lo, max (rgK b who l k).hi (owdI b (l[k]?.getD default) who).hi⟩
abbrev owE (b : FB) (who : Int) : Int := askF b (within who 0 (w64 (b.persons - 1)))
def owdR (b : FB) (who : Int) : AV := .tup [SP (if owE b who = 0 then rgK b who (lrgL b) (lrgL b).length else ⟨0, 0⟩), .int (owE b who)]

theorem c25 (b : FB) (hs : SmF b) (who : Int) : Ctr Try.prog 25 [FK b, .int who] (owdR b who) := by
  refine ctr_of_wp hmix Try.func25 m25 rfl ?_
  unfold v25 owdR
  have a1 := c71 who 0 (w64 (b.persons - 1))
  have a2 := c70 b hs (within who 0 (w64 (b.persons - 1)))
  obtain ⟨e, hE⟩ : ∃ e, owE b who = e := ⟨_, rfl⟩
  have hE' : askF b (within who 0 (w64 (b.persons - 1))) = e := hE
  rw [hE'] at a2
  rw [hE]
  simp -failIfUnchanged (disch := first | omega | (simp <;> omega) | fail) only [go_sem, simprocAttr]
  refine wcall a1 ?_
  simp -failIfUnchanged (disch := first | omega | (simp <;> omega) | fail) only [go_sem, simprocAttr]
  refine wcall a2 ?_
  by_cases h0 : e = 0
  · subst h0
    obtain ⟨hc, _⟩ := pr_0 hE'
    have hv := vf_of hc
    have k2 := c64 b hv
    have hne := lrgL_ne b
    have hgm : ∀ x ∈ lrgL b, GM b b.ones.length x := fun x hx => (mem_lrg.1 hx).1
    have h0 : 0 < (lrgL b).length := List.length_pos_iff.2 hne
    have hsm := lrg_small hv
    generalize lrgL b = M at k2 hgm h0 hsm ⊢
    have c72a : ∀ i, i < M.length → Ctr Try.prog 72 [PS (M[i]?.getD default), FK b, .int who] (SP (owdI b (M[i]?.getD default) who)) := fun i hi => c72 b hv _ (hgm _ (mem_getD hi)) who
    have hat : ∀ i, i < M.length → (M.map PS)[i]?.getD .nul = PS (M[i]?.getD default) := fun i hi => by simp [hi]
    have c0 := c72a 0 h0
    have e0 := hat 0 h0
    simp -failIfUnchanged (disch := first | omega | (simp <;> omega) | fail) only [go_sem, simprocAttr]
    refine wcall k2 ?_
    simp -failIfUnchanged (disch := first | omega | (simp <;> omega) | fail) only [go_sem, simprocAttr, e0]
    refine wcall c0 ?_
    simp -failIfUnchanged (disch := first | omega | (simp <;> omega) | fail) only [go_sem, simprocAttr]
    refine wp_loop' Nat (fun i => ⟨[(1, .int who), (2, .ptr 2 0), (4, .ptr 4 0), (8, .ptr 8 0), (31, .sl 1 (M.map PS) .sh), (32, .int M.length), (33, .int i)],
        [(8, ⟨[.int (rgK b who M i).lo, .int (rgK b who M i).hi], false⟩), (4, ⟨[.int 0, .int 0], false⟩), (2, ⟨FKc b, false⟩)], [], none⟩) (fun i => i ≤ M.length) (fun i => M.length - i) 0 (by simp) (by simp -failIfUnchanged (disch := first | omega | (simp <;> omega) | fail) only [go_sem, simprocAttr]; simp [rgK]) ?_
    intro i hi
    have hi : i ≤ M.length := hi
    simp -failIfUnchanged (disch := first | omega | (simp <;> omega) | fail) only [go_sem, simprocAttr]
    refine wcond_dec (fun h1 => ?_) (fun h1 => ?_)
    · have hil : i < M.length := by omega
      have c1 := c72a i hil
      have e1 := hat i hil
      have hst : rgK b who M (i + 1) = ⟨min (rgK b who M i).lo (owdI b (M[i]?.getD default) who).lo, max (rgK b who M i).hi (owdI b (M[i]?.getD default) who).hi⟩ := rfl
      simp -failIfUnchanged (disch := first | omega | (simp <;> omega) | fail) only [go_sem, simprocAttr, e1]
      refine wcall c1 ?_
      simp -failIfUnchanged (disch := first | omega | (simp <;> omega) | fail) only [go_sem, simprocAttr]
      refine ⟨i + 1, by dsimp only; omega, by dsimp only; omega, ?_⟩
      dsimp only
      rw [hst]
      simp -failIfUnchanged (disch := first | omega | (simp <;> omega) | fail) only [go_sem, simprocAttr]
      try simp
    · have e : i = M.length := by omega
      subst e
      simp -failIfUnchanged (disch := first | omega | (simp <;> omega) | fail) only [go_sem, simprocAttr]
      try simp
  · have hd : decide (¬ e = 0) = true := decide_eq_true h0
    simp -failIfUnchanged (disch := first | omega | (simp <;> omega) | fail) only [go_sem, simprocAttr, hd]
    simp [h0]

end Go.Proofs.Ytemnojaoickjfaa


/- Alone. -/
set_option linter.unusedSimpArgs false
set_option linter.unusedVariables false
set_option linter.unnecessarySimpa false
namespace Go.Proofs.Ytemnojaoickjfaa
open Go Go.V

theorem zeros_ints (n : Nat) : zeros [.int 0] n = (List.replicate n (0 : Int)).map .int := by
  induction n with
  | zero => rfl
  | succ n ih => simp only [zeros, List.replicate_succ, List.map_cons, ih]; rfl
theorem setAt_ints {xs : List Int} {i : Nat} {x : Int} (h : i < xs.length) : setAt (xs.map .int) i [.int x] = (xs.set i x).map .int := by
  induction xs generalizing i with
  | nil => simp at h
  | cons w l ih =>
    cases i with
    | zero => rfl
    | succ i =>
      simp only [List.map_cons, setAt, List.set_cons_succ]
      rw [ih (by simpa using h)]
theorem map_ints {xs : List Int} {hp : List (Nat × BX)} : (xs.map AV.int).map (strip hp) = xs.map .int := by
  rw [List.map_map]
  rfl
theorem bids_ints {xs : List Int} : bids (xs.map AV.int) = [] := by
  induction xs with
  | nil => rfl
  | cons w l ih => simp only [List.map_cons, bids, AV.bid, AV.bid1, ih, List.append_nil]
theorem scopes_ints {τ : AS} {xs : List Int} : scopes τ (xs.map AV.int) = True := by
  induction xs with
  | nil => rfl
  | cons w l ih => simp only [List.map_cons, scopes, inScope, ih, and_self]
theorem ints_get {xs : List Int} {i : Nat} (h : i < xs.length) : (xs.map AV.int)[i]?.getD .und = .int (xs[i]?.getD default) := by simp [h]
attribute [go_sem] ints_get zeros_ints setAt_ints map_ints bids_ints scopes_ints

/-- A pair's entry of a book; the entries of a book. -/
def ofP (n : Int) (p : Pa) : Int := if n = 0 then p.one else p.other
def bokL (b : FB) (n : Int) : List En := if n = 0 then b.ones else b.others
def inB (n : Int) (t : List Pa) (i : Int) : Bool := t.any fun p => decide (ofP n p = i)
def alnP (b : FB) (n : Int) (i : Nat) : Bool := !(lrgL b).any fun t => inB n t i
def alnK (b : FB) (n : Int) (k : Nat) : List Int := ((List.range k).filter (alnP b n)).map fun i : Nat => (i : Int)
def alnL (b : FB) (n : Int) : List Int := alnK b n (bokL b n).length
abbrev bkE (b : FB) (n : Int) : Int := askF b (within n 0 1)
def alnR (b : FB) (n : Int) : AV := .tup [IS (if bkE b n = 0 then alnL b n else []), .int (bkE b n)]

theorem c100 (p : Pa) : Ctr Try.prog 100 [PA p] (.int p.one) := by
  refine ctr_of_wp hmix Try.func100 m100 rfl ?_
  unfold v100
  simp -failIfUnchanged (disch := first | omega | (simp <;> omega) | fail) only [go_sem, simprocAttr]
  try simp
theorem c101 (p : Pa) : Ctr Try.prog 101 [PA p] (.int p.other) := by
  refine ctr_of_wp hmix Try.func101 m101 rfl ?_
  unfold v101
  simp -failIfUnchanged (disch := first | omega | (simp <;> omega) | fail) only [go_sem, simprocAttr]
  try simp
theorem c73 (b : FB) (n : Int) : Ctr Try.prog 73 [FK b, .int n] (.tup [ES (bokL b n), .clo (if n = 0 then 100 else 101) [] []]) := by
  refine ctr_of_wp hmix Try.func73 m73 rfl ?_
  unfold v73 bokL
  simp -failIfUnchanged (disch := first | omega | (simp <;> omega) | fail) only [go_sem, simprocAttr]
  refine wcond_dec (fun h => ?_) (fun h => ?_)
  · rw [if_pos h, if_pos h]
    simp -failIfUnchanged (disch := first | omega | (simp <;> omega) | fail) only [go_sem, simprocAttr]
    try simp
  · rw [if_neg h, if_neg h]
    simp -failIfUnchanged (disch := first | omega | (simp <;> omega) | fail) only [go_sem, simprocAttr]
    try simp

theorem alnK_succ (b : FB) (n : Int) (k : Nat) : alnK b n (k + 1) = alnK b n k ++ (if alnP b n k then [(k : Int)] else []) := by
  unfold alnK
  rw [List.range_succ, List.filter_append, List.map_append]
  congr 1
  by_cases h : alnP b n k <;> simp [h]
theorem alnK_len (b : FB) (n : Int) (k : Nat) : (alnK b n k).length ≤ k := by
  unfold alnK
  rw [List.length_map]
  exact Nat.le_trans (List.length_filter_le _ _) (by simp)

theorem gm_of {b : FB} {t : List Pa} (hg : GM b b.ones.length t) {n : Int} {k : Nat} (hk : k < t.length) : ∃ q : Nat, ofP n (t[k]?.getD default) = q ∧ q < (bokL b n).length := by
  obtain ⟨i, j, e, hi, hj, _⟩ := gm_at hg hk
  rw [e]
  unfold ofP bokL
  by_cases h : n = 0
  · rw [if_pos h, if_pos h]; exact ⟨i, rfl, hi⟩
  · rw [if_neg h, if_neg h]; exact ⟨j, rfl, hj⟩
theorem any_snoc {α : Type} [Inhabited α] {p : α → Bool} {l : List α} {i : Nat} (h : i < l.length) : (l.take (i + 1)).any p = ((l.take i).any p || p (l[i]?.getD default)) := by
  rw [List.take_add_one, List.getElem?_eq_getElem h, List.any_append]
  simp

/-- What the counts say. -/
structure CN (xs : List Int) (L : Nat) (B : Int) (p : Nat → Bool) : Prop where
  n : xs.length = L
  b : ∀ q, q < L → 0 ≤ xs[q]?.getD default ∧ xs[q]?.getD default ≤ B
  z : ∀ q, q < L → decide (xs[q]?.getD default = 0) = !p q
theorem cn_add {xs : List Int} {L : Nat} {B : Int} {p p' : Nat → Bool} (h : CN xs L B p) {q : Nat} (hq : q < L) (hp : ∀ i, p' i = (p i || decide (q = i))) : CN (xs.set q (xs[q]?.getD default + 1)) L (B + 1) p' := by
  have hn := h.n
  refine ⟨by rw [List.length_set]; exact h.n, fun i hi => ?_, fun i hi => ?_⟩
  · have h1 := h.b i hi
    have h2 := h.b q hq
    by_cases e : q = i
    · subst e
      simp only [List.getElem?_set_self (by omega : q < xs.length), Option.getD_some]
      omega
    · rw [List.getElem?_set_ne e]
      omega
  · have h2 := h.b q hq
    rw [hp]
    by_cases e : q = i
    · subst e
      simp only [List.getElem?_set_self (by omega : q < xs.length), Option.getD_some, decide_true, Bool.or_true, Bool.not_true]
      exact decide_eq_false (by omega)
    · rw [List.getElem?_set_ne e, h.z i hi, decide_eq_false e, Bool.or_false]

set_option maxRecDepth 10000 in
theorem c27 (b : FB) (hs : SmF b) (n : Int) : Ctr Try.prog 27 [FK b, .int n] (alnR b n) := by
  refine ctr_of_wp hmix Try.func27 m27 rfl ?_
  unfold v27 alnR
  have a1 := c71 n 0 1
  have a2 := c70 b hs (within n 0 1)
  obtain ⟨e, hE⟩ : ∃ e, bkE b n = e := ⟨_, rfl⟩
  have hE' : askF b (within n 0 1) = e := hE
  rw [hE'] at a2
  rw [hE]
  simp -failIfUnchanged (disch := first | omega | (simp <;> omega) | fail) only [go_sem, simprocAttr]
  refine wcall a1 ?_
  simp -failIfUnchanged (disch := first | omega | (simp <;> omega) | fail) only [go_sem, simprocAttr]
  refine wcall a2 ?_
  by_cases h0 : e = 0
  · subst h0
    obtain ⟨hc, _⟩ := pr_0 hE'
    have hv := vf_of hc
    have k2 := c64 b hv
    have k3 := c73 b n
    have hcl : ∀ p : Pa, Ctr Try.prog (if n = 0 then 100 else 101) [PA p] (.int (ofP n p)) := fun p => by
      unfold ofP
      by_cases h : n = 0
      · rw [if_pos h, if_pos h]; exact c100 p
      · rw [if_neg h, if_neg h]; exact c101 p
    generalize (if n = 0 then 100 else 101) = g at k3 hcl
    obtain ⟨L, hL⟩ : ∃ L, (bokL b n).length = L := ⟨_, rfl⟩
    have hL5 : L ≤ 5 := by
      have := hv.n1
      have := hv.n2
      rw [← hL]
      unfold bokL
      split <;> omega
    have hgm : ∀ x ∈ lrgL b, GM b b.ones.length x := fun x hx => (mem_lrg.1 hx).1
    have hsm := lrg_small hv
    obtain ⟨M, hM⟩ : ∃ M, lrgL b = M := ⟨_, rfl⟩
    have haP : ∀ i : Nat, alnP b n i = !M.any fun t => inB n t i := fun i => by unfold alnP; rw [hM]
    rw [hM] at k2 hgm hsm
    have hat : ∀ i, i < M.length → (M.map PS)[i]?.getD .nul = PS (M[i]?.getD default) := fun i hi => by simp [hi]
    simp -failIfUnchanged (disch := first | omega | (simp <;> omega) | fail) only [go_sem, simprocAttr]
    refine wcall k3 ?_
    simp -failIfUnchanged (disch := first | omega | (simp <;> omega) | fail) only [go_sem, simprocAttr, hL]
    refine wcall k2 ?_
    simp -failIfUnchanged (disch := first | omega | (simp <;> omega) | fail) only [go_sem, simprocAttr]
    refine wp_loop' (Nat × List Int) (fun st => ⟨[(8, .clo g [] []), (9, .bsl 32 0 1 L false), (34, .sl 1 (M.map PS) .sh), (35, .int M.length), (36, .int st.1)],
        [(32, ⟨st.2.map .int, false⟩)], [], none⟩) (fun st => st.1 ≤ M.length ∧ CN st.2 L (5 * (st.1 : Int)) (fun i => (M.take st.1).any fun t => inB n t i)) (fun st => M.length - st.1) (0, List.replicate L 0) ⟨by simp, ⟨by simp, fun q hq => by simp [hq], fun q hq => by simp [hq]⟩⟩ (by simp -failIfUnchanged (disch := first | omega | (simp <;> omega) | fail) only [go_sem, simprocAttr]; try simp) ?_
    rintro ⟨i, xs⟩ ⟨hi, hx⟩
    dsimp only at hi hx
    simp -failIfUnchanged (disch := first | omega | (simp <;> omega) | fail) only [go_sem, simprocAttr]
    refine wcond_dec (fun h1 => ?_) (fun h1 => ?_)
    · have hil : i < M.length := by omega
      have e1 := hat i hil
      obtain ⟨t, ht⟩ : ∃ t, M[i]?.getD default = t := ⟨_, rfl⟩
      have hg := hgm t (by rw [← ht]; exact mem_getD hil)
      have htl := gm_len hg
      have hn1 := hv.n1
      rw [ht] at e1
      simp -failIfUnchanged (disch := first | omega | (simp <;> omega) | fail) only [go_sem, simprocAttr, e1, ht]
      refine wp_loop' (Nat × List Int) (fun st => ⟨[(8, .clo g [] []), (9, .bsl 32 0 1 L false), (34, .sl 1 (M.map PS) .sh), (35, .int M.length), (36, .int i), (40, PS t), (41, .int t.length), (42, .int st.1)],
        [(32, ⟨st.2.map .int, false⟩)], [], none⟩) (fun st => st.1 ≤ t.length ∧ CN st.2 L (5 * (i : Int) + st.1) (fun q => ((M.take i).any fun t => inB n t q) || inB n (t.take st.1) q)) (fun st => t.length - st.1) (0, xs) ⟨by simp, by simpa [inB] using hx⟩ (by simp -failIfUnchanged (disch := first | omega | (simp <;> omega) | fail) only [go_sem, simprocAttr]; try simp) ?_
      rintro ⟨j, ys⟩ ⟨hj, hy⟩
      dsimp only at hj hy
      simp -failIfUnchanged (disch := first | omega | (simp <;> omega) | fail) only [go_sem, simprocAttr]
      refine wcond_dec (fun h2 => ?_) (fun h2 => ?_)
      · have hjl : j < t.length := by omega
        obtain ⟨p, hp⟩ : ∃ p, t[j]?.getD default = p := ⟨_, rfl⟩
        obtain ⟨q, hq, hqL⟩ := gm_of hg (n := n) hjl
        rw [hp] at hq
        have k4 := hcl p
        rw [hq] at k4
        rw [hL] at hqL
        have hyn := hy.n
        have hyb := hy.b q hqL
        have hadd := cn_add (p' := fun q => ((M.take i).any fun t => inB n t q) || inB n (t.take (j + 1)) q) hy hqL (fun i' => by
          have e2 : inB n (t.take (j + 1)) i' = (inB n (t.take j) i' || decide (q = i')) := by
            unfold inB
            rw [any_snoc hjl, hp, hq]
            congr 1
            apply decide_eq_decide.2
            omega
          rw [e2, Bool.or_assoc])
        simp -failIfUnchanged (disch := first | omega | (simp <;> omega) | fail) only [go_sem, simprocAttr, hp]
        refine wcall k4 ?_
        simp -failIfUnchanged (disch := first | omega | (simp <;> omega) | fail) only [go_sem, simprocAttr]
        refine ⟨(j + 1, ys.set q (ys[q]?.getD default + 1)), ⟨by dsimp only; omega, ?_⟩, by dsimp only; omega, ?_⟩
        · have e3 : 5 * (i : Int) + ((j + 1 : Nat) : Int) = 5 * (i : Int) + (j : Int) + 1 := by omega
          dsimp only
          rw [e3]
          exact hadd
        · simp -failIfUnchanged (disch := first | omega | (simp <;> omega) | fail) only [go_sem, simprocAttr]
          try simp
      · have ej : j = t.length := by omega
        subst ej
        simp -failIfUnchanged (disch := first | omega | (simp <;> omega) | fail) only [go_sem, simprocAttr]
        refine ⟨(i + 1, ys), ⟨by dsimp only; omega, ?_⟩, by dsimp only; omega, ?_⟩
        · dsimp only
          refine ⟨hy.n, fun q hq => by have := hy.b q hq; omega, fun q hq => ?_⟩
          rw [hy.z q hq]
          rw [any_snoc hil, ht, List.take_length]
        · simp -failIfUnchanged (disch := first | omega | (simp <;> omega) | fail) only [go_sem, simprocAttr]
          try simp
    · have ei : i = M.length := by omega
      subst ei
      have hxn := hx.n
      have hxz : ∀ q, q < L → decide (xs[q]?.getD default = 0) = alnP b n q := fun q hq => by
        rw [hx.z q hq, haP, List.take_length]
      simp -failIfUnchanged (disch := first | omega | (simp <;> omega) | fail) only [go_sem, simprocAttr]
      refine wp_loop' Nat (fun k => ⟨[(14, .sl 1 ((alnK b n k).map .int) (.own 14)), (56, .bsl 32 0 1 L false), (57, .int L), (58, .int k)],
        [(32, ⟨xs.map .int, false⟩)], [(14, (alnK b n k).length)], none⟩) (fun k => k ≤ L) (fun k => L - k) 0 (by simp) (by simp -failIfUnchanged (disch := first | omega | (simp <;> omega) | fail) only [go_sem, simprocAttr]; simp [alnK]) ?_
      intro k hk
      have hk : k ≤ L := hk
      have hkl := alnK_len b n k
      simp -failIfUnchanged (disch := first | omega | (simp <;> omega) | fail) only [go_sem, simprocAttr]
      refine wcond_dec (fun h2 => ?_) (fun h2 => ?_)
      · have hkL : k < L := by omega
        have hz := hxz k hkL
        have hks := alnK_succ b n k
        simp -failIfUnchanged (disch := first | omega | (simp <;> omega) | fail) only [go_sem, simprocAttr, hz]
        cases ha : alnP b n k with
        | true =>
          rw [ha] at hks
          simp -failIfUnchanged (disch := first | omega | (simp <;> omega) | fail) only [go_sem, simprocAttr]
          refine ⟨k + 1, by dsimp only; omega, by dsimp only; omega, ?_⟩
          dsimp only
          rw [hks]
          simp -failIfUnchanged (disch := first | omega | (simp <;> omega) | fail) only [go_sem, simprocAttr]
          try simp
        | false =>
          rw [ha] at hks
          simp -failIfUnchanged (disch := first | omega | (simp <;> omega) | fail) only [go_sem, simprocAttr]
          refine ⟨k + 1, by dsimp only; omega, by dsimp only; omega, ?_⟩
          dsimp only
          rw [hks]
          simp -failIfUnchanged (disch := first | omega | (simp <;> omega) | fail) only [go_sem, simprocAttr]
          try simp
      · have ek : k = L := by omega
        subst ek
        simp -failIfUnchanged (disch := first | omega | (simp <;> omega) | fail) only [go_sem, simprocAttr]
        simp [alnL, hL]
  · have hd : decide (¬ e = 0) = true := decide_eq_true h0
    simp -failIfUnchanged (disch := first | omega | (simp <;> omega) | fail) only [go_sem, simprocAttr, hd]
    simp [h0]

end Go.Proofs.Ytemnojaoickjfaa


/- Late. -/
set_option linter.unusedSimpArgs false
set_option linter.unusedVariables false
set_option linter.unnecessarySimpa false
namespace Go.Proofs.Ytemnojaoickjfaa
open Go Go.V

/-- Books with another Late. -/
abbrev lat (b : FB) (l : Int) : FB := { b with late := l }
/-- The first l with p, or n. -/
def fstN (p : Nat → Bool) (n : Nat) : Nat := ((List.range n).find? p).getD n
theorem fstN_eq {p : Nat → Bool} {n k : Nat} (hk : k ≤ n) (h : ∀ i, i < k → p i = false) (hp : k = n ∨ p k = true) : fstN p n = k := by
  unfold fstN
  rcases hp with rfl | hp
  · have : (List.range k).find? p = none := by
      rw [List.find?_eq_none]
      intro x hx
      rw [h x (List.mem_range.1 hx)]
      exact Bool.false_ne_true
    rw [this]; rfl
  · by_cases e : k = n
    · subst e
      have : (List.range k).find? p = none := by
        rw [List.find?_eq_none]
        intro x hx
        rw [h x (List.mem_range.1 hx)]
        exact Bool.false_ne_true
      rw [this]; rfl
    · have : (List.range n).find? p = some k := by
        have e2 : List.range n = List.range k ++ k :: (List.range (n - k - 1)).map (fun i => k + 1 + i) := by
          apply List.ext_getElem?
          intro i
          rcases Nat.lt_or_ge i k with h1 | h1
          · rw [List.getElem?_append_left (by simpa using h1)]
            simp [List.getElem?_range, h1, show i < n by omega]
          · rw [List.getElem?_append_right (by simpa using h1), List.length_range]
            rcases Nat.lt_or_ge i n with h2 | h2
            · rw [List.getElem?_range h2]
              by_cases h3 : i = k
              · subst h3; simp
              · obtain ⟨m, hm⟩ : ∃ m, i - k = m + 1 := ⟨i - k - 1, by omega⟩
                rw [hm, List.getElem?_cons_succ, List.getElem?_map, List.getElem?_range (by omega)]
                simp
                omega
            · rw [List.getElem?_eq_none (by simpa using h2), List.getElem?_eq_none]
              simp
              omega
        rw [e2, List.find?_append]
        have : (List.range k).find? p = none := by
          rw [List.find?_eq_none]
          intro x hx
          rw [h x (List.mem_range.1 hx)]
          exact Bool.false_ne_true
        rw [this, List.find?_cons, hp]
        rfl
      rw [this]; rfl

def ltP (b : FB) (l : Nat) : Bool := decide (fewI (lat b l) ≤ fewI (lat b 30))
def ltN (b : FB) : Nat := fstN (ltP b) 30
def ltR (b : FB) : AV := .tup [.int (if chkB b then ltN b else 0), .int (errF b)]
theorem vf_lat {b : FB} (hv : VF b) {l : Int} (h : 0 ≤ l ∧ l ≤ 30) : VF (lat b l) :=
  ⟨hv.bs, hv.pl, hv.pe, h, hv.n1, hv.n2, fun e he => ⟨(hv.e1 e he).d, (hv.e1 e he).w, ⟨(hv.e1 e he).c.n, (hv.e1 e he).c.s⟩⟩, fun e he => ⟨(hv.e2 e he).d, (hv.e2 e he).w, ⟨(hv.e2 e he).c.n, (hv.e2 e he).c.s⟩⟩⟩

theorem c19 (b : FB) (hs : SmF b) : Ctr Try.prog 19 [FK b] (ltR b) := by
  refine ctr_of_wp hmix Try.func19 m19 rfl ?_
  unfold v19 ltR
  have k1 := c48 b hs
  unfold errF at k1 ⊢
  cases hc : chkB b with
  | false =>
    rw [hc] at k1
    simp -failIfUnchanged (disch := first | omega | (simp <;> omega) | fail) only [go_sem, simprocAttr]
    refine wcall k1 ?_
    simp -failIfUnchanged (disch := first | omega | (simp <;> omega) | fail) only [go_sem, simprocAttr]
    try simp
  | true =>
    rw [hc] at k1
    have hv := vf_of hc
    have k2 : ∀ l : Nat, l ≤ 30 → Ctr Try.prog 67 [FK (lat b l)] (.int (fewI (lat b l))) := fun l hl => c67 _ (vf_lat hv (by omega))
    have k30 := k2 30 (by omega)
    have e30 : fewI (lat b ((30 : Nat) : Int)) = fewI (lat b 30) := rfl
    rw [e30] at k30
    obtain ⟨F, hF⟩ : ∃ F : Nat → Int, ∀ l : Nat, fewI (lat b l) = F l := ⟨_, fun _ => rfl⟩
    have hP : ∀ l, ltP b l = decide (F l ≤ F 30) := fun l => by unfold ltP; rw [hF, ← e30, hF]
    rw [← e30, hF] at k30
    unfold ltN
    simp -failIfUnchanged (disch := first | omega | (simp <;> omega) | fail) only [go_sem, simprocAttr]
    refine wcall k1 ?_
    simp -failIfUnchanged (disch := first | omega | (simp <;> omega) | fail) only [go_sem, simprocAttr]
    refine wcall k30 ?_
    simp -failIfUnchanged (disch := first | omega | (simp <;> omega) | fail) only [go_sem, simprocAttr]
    refine wp_loop' Nat (fun l => ⟨[(1, .ptr 1 0), (5, .int (F 30))], [(1, ⟨[.int b.base, .int b.places, .int b.persons, .int l, ES b.ones, ES b.others], false⟩)], [], none⟩) (fun l => l ≤ 30 ∧ ∀ i, i < l → ltP b i = false) (fun l => 30 - l) 0 (by simp) (by simp -failIfUnchanged (disch := first | omega | (simp <;> omega) | fail) only [go_sem, simprocAttr]; try simp) ?_
    rintro l ⟨hl, hpre⟩
    have k3 := k2 l hl
    rw [hF] at k3
    simp -failIfUnchanged (disch := first | omega | (simp <;> omega) | fail) only [go_sem, simprocAttr]
    refine wcall k3 ?_
    simp -failIfUnchanged (disch := first | omega | (simp <;> omega) | fail) only [go_sem, simprocAttr]
    refine wcond_dec (fun h1 => ?_) (fun h1 => ?_)
    · have hl30 : l ≠ 30 := fun e => by subst e; omega
      have hPl : ltP b l = false := by rw [hP]; exact decide_eq_false (by omega)
      simp -failIfUnchanged (disch := first | omega | (simp <;> omega) | fail) only [go_sem, simprocAttr]
      refine ⟨l + 1, ⟨by omega, fun i hi => ?_⟩, by dsimp only; omega, ?_⟩
      · by_cases e : i = l
        · subst e; exact hPl
        · exact hpre i (by omega)
      · simp -failIfUnchanged (disch := first | omega | (simp <;> omega) | fail) only [go_sem, simprocAttr]
        try simp
    · have hPl : ltP b l = true := by rw [hP]; exact decide_eq_true (by omega)
      rw [fstN_eq hl hpre (.inr hPl)]
      simp -failIfUnchanged (disch := first | omega | (simp <;> omega) | fail) only [go_sem, simprocAttr]
      try simp

end Go.Proofs.Ytemnojaoickjfaa


/- The example; works. -/
set_option linter.unusedSimpArgs false
set_option linter.unusedVariables false
set_option linter.unnecessarySimpa false
namespace Go.Proofs.Ytemnojaoickjfaa
open Go Go.V

def bkX : FB := ⟨10, 2, 2, 3, [⟨1, 0, [⟨1, 1⟩, ⟨2, 5⟩]⟩, ⟨4, 1, [⟨0, 0⟩, ⟨7, 7⟩]⟩], [⟨3, 0, [⟨1, 1⟩, ⟨4, 9⟩]⟩, ⟨9, 1, [⟨0, 0⟩, ⟨7, 7⟩]⟩, ⟨2, 0, [⟨0, 1⟩, ⟨3, 3⟩]⟩]⟩

theorem c63 : Ctr Try.prog 63 [] (FK bkX) := by
  refine ctr_of_wp hmix Try.func63 m63 rfl ?_
  unfold v63 bkX
  simp -failIfUnchanged (disch := first | omega | (simp <;> omega) | fail) only [go_sem, simprocAttr]
  try simp

theorem bkX_s : SmF bkX := ⟨⟨by decide, by decide⟩, ⟨by decide, by decide⟩⟩
theorem x1 : cmmR bkX 0 0 = .tup [SP ⟨14, 15⟩, .int 0] := by kernel_rfl
theorem x2 : fewR bkX = .tup [.int 4, .int 0] := by kernel_rfl
theorem x3 : owdR bkX 0 = .tup [SP ⟨17, 32⟩, .int 0] := by kernel_rfl
theorem x4 : alnR bkX 1 = .tup [IS [1], .int 0] := by kernel_rfl
theorem x5 : (AV.tup [.int (if chkB bkX then ldK bkX (lrgL bkX) (lrgL bkX).length else 0), .int (errF bkX)]) = .tup [.int 1, .int 0] := by kernel_rfl
theorem x6 : ltR bkX = .tup [.int 5, .int 0] := by kernel_rfl

theorem c15 : Ctr Try.prog 15 [] (.bool true) := by
  refine ctr_of_wp hmix Try.func15 m15 rfl ?_
  unfold v15
  have k1 := c41 bkX bkX_s 0 0
  have k2 := c28 bkX bkX_s
  have k3 := c25 bkX bkX_s 0
  have k4 := c27 bkX bkX_s 1
  have k5 := c17 bkX bkX_s
  have k6 := c19 bkX bkX_s
  rw [x1] at k1
  rw [x2] at k2
  rw [x3] at k3
  rw [x4] at k4
  rw [x5] at k5
  rw [x6] at k6
  have hb := c63
  generalize bkX = b at *
  simp -failIfUnchanged (disch := first | omega | (simp <;> omega) | fail) only [go_sem, simprocAttr]
  refine wcall hb ?_
  simp -failIfUnchanged (disch := first | omega | (simp <;> omega) | fail) only [go_sem, simprocAttr]
  refine wcall k1 ?_
  simp -failIfUnchanged (disch := first | omega | (simp <;> omega) | fail) only [go_sem, simprocAttr]
  refine wcall k2 ?_
  simp -failIfUnchanged (disch := first | omega | (simp <;> omega) | fail) only [go_sem, simprocAttr]
  refine wcall k3 ?_
  simp -failIfUnchanged (disch := first | omega | (simp <;> omega) | fail) only [go_sem, simprocAttr]
  refine wcall k4 ?_
  simp -failIfUnchanged (disch := first | omega | (simp <;> omega) | fail) only [go_sem, simprocAttr]
  refine wcall k5 ?_
  simp -failIfUnchanged (disch := first | omega | (simp <;> omega) | fail) only [go_sem, simprocAttr]
  refine wcall k6 ?_
  simp -failIfUnchanged (disch := first | omega | (simp <;> omega) | fail) only [go_sem, simprocAttr, eq_self]
  refine wcall (c62 [1] [1] (by simp)) ?_
  simp -failIfUnchanged (disch := first | omega | (simp <;> omega) | fail) only [go_sem, simprocAttr, eq_self]

end Go.Proofs.Ytemnojaoickjfaa


/- Copies; equal books; what is far too much. -/
set_option linter.unusedSimpArgs false
set_option linter.unusedVariables false
set_option linter.unnecessarySimpa false
namespace Go.Proofs.Ytemnojaoickjfaa
open Go Go.V

theorem c26 (l : List En) (hs : SmE l) : Ctr Try.prog 26 [ES l] (ES l) := by
  refine ctr_of_wp hmix Try.func26 m26f rfl ?_
  unfold v26f
  have hn := hs.n
  simp -failIfUnchanged (disch := first | omega | (simp <;> omega) | fail) only [go_sem, simprocAttr]
  refine wp_loop' Nat (fun i => ⟨[(0, ES l), (3, .sl 3 ((l.take i).map EN) (.own 3)), (4, .int i)], [], [(3, i)], none⟩) (fun i => i ≤ l.length) (fun i => l.length - i) 0 (by simp) (by simp -failIfUnchanged (disch := first | omega | (simp <;> omega) | fail) only [go_sem, simprocAttr]; try simp) ?_
  intro i hi
  have hi : i ≤ l.length := hi
  simp -failIfUnchanged (disch := first | omega | (simp <;> omega) | fail) only [go_sem, simprocAttr]
  refine wcond_dec (fun h => ?_) (fun h => ?_)
  · have hlt : i < l.length := by omega
    obtain ⟨e, he⟩ : ∃ e, l[i]?.getD default = e := ⟨_, rfl⟩
    have hc := hs.c e (by rw [← he]; exact mem_getD hlt)
    have hli : (l.take i).length = i := by simp; omega
    have hts : l.take (i + 1) = l.take i ++ [e] := by
      have e2 : l[i] = e := by rw [← he, List.getElem?_eq_getElem hlt]; rfl
      rw [List.take_add_one, List.getElem?_eq_getElem hlt, e2]; rfl
    generalize l.take i = K at *
    simp -failIfUnchanged (disch := first | omega | (simp <;> omega) | fail) only [go_sem, simprocAttr, he]
    refine ⟨hli.symm, i + 1, by dsimp only; omega, by dsimp only; omega, ?_⟩
    dsimp only
    rw [hts]
    simp -failIfUnchanged (disch := first | omega | (simp <;> omega) | fail) only [go_sem, simprocAttr]
    simp [hli]
  · have e : i = l.length := by omega
    subst e
    rw [List.take_length]
    simp -failIfUnchanged (disch := first | omega | (simp <;> omega) | fail) only [go_sem, simprocAttr]
    try simp

theorem c16 (b : FB) (hs : SmF b) : Ctr Try.prog 16 [FK b] (FK b) := by
  refine ctr_of_wp hmix Try.func16 m16 rfl ?_
  unfold v16
  simp -failIfUnchanged (disch := first | omega | (simp <;> omega) | fail) only [go_sem, simprocAttr]
  refine wcall (c26 _ hs.ones) ?_
  simp -failIfUnchanged (disch := first | omega | (simp <;> omega) | fail) only [go_sem, simprocAttr]
  refine wcall (c26 _ hs.others) ?_
  simp -failIfUnchanged (disch := first | omega | (simp <;> omega) | fail) only [go_sem, simprocAttr]
  try simp

theorem c54 (l : List Pa) (hl : l.length < 4294967296) : Ctr Try.prog 54 [PS l, PS l] (.bool true) := by
  refine ctr_of_wp hmix Try.func54 m54 rfl ?_
  unfold v54
  have hne : decide (¬ (l.length : Int) = l.length) = false := decide_eq_false (by simp)
  simp -failIfUnchanged (disch := first | omega | (simp <;> omega) | fail) only [go_sem, simprocAttr, hne]
  refine wp_loop' Nat (fun i => ⟨[(0, PS l), (1, PS l), (5, .int i)], [], [], none⟩) (fun i => i ≤ l.length) (fun i => l.length - i) 0 (by simp) (by simp -failIfUnchanged (disch := first | omega | (simp <;> omega) | fail) only [go_sem, simprocAttr]; try rfl) ?_
  intro i hi
  have hi : i ≤ l.length := hi
  simp -failIfUnchanged (disch := first | omega | (simp <;> omega) | fail) only [go_sem, simprocAttr]
  refine wcond_dec (fun h => ?_) (fun h => ?_)
  · have hlt : i < l.length := by omega
    obtain ⟨x, hx⟩ : ∃ x, l[i]?.getD default = x := ⟨_, rfl⟩
    simp -failIfUnchanged (disch := first | omega | (simp <;> omega) | fail) only [go_sem, simprocAttr, hx, eq_self]
    refine ⟨i + 1, by dsimp only; omega, by dsimp only; omega, ?_⟩
    simp -failIfUnchanged (disch := first | omega | (simp <;> omega) | fail) only [go_sem, simprocAttr]
    try simp
  · simp -failIfUnchanged (disch := first | omega | (simp <;> omega) | fail) only [go_sem, simprocAttr]

theorem c68 (l : List En) (hs : SmE l) : Ctr Try.prog 68 [ES l, ES l] (.bool true) := by
  refine ctr_of_wp hmix Try.func68 m68 rfl ?_
  unfold v68
  have hn := hs.n
  have hne : decide (¬ (l.length : Int) = l.length) = false := decide_eq_false (by simp)
  simp -failIfUnchanged (disch := first | omega | (simp <;> omega) | fail) only [go_sem, simprocAttr, hne]
  refine wp_loop' Nat (fun i => ⟨[(0, ES l), (1, ES l), (5, .int i)], [], [], none⟩) (fun i => i ≤ l.length) (fun i => l.length - i) 0 (by simp) (by simp -failIfUnchanged (disch := first | omega | (simp <;> omega) | fail) only [go_sem, simprocAttr]; try rfl) ?_
  intro i hi
  have hi : i ≤ l.length := hi
  simp -failIfUnchanged (disch := first | omega | (simp <;> omega) | fail) only [go_sem, simprocAttr]
  refine wcond_dec (fun h => ?_) (fun h => ?_)
  · have hlt : i < l.length := by omega
    obtain ⟨x, hx⟩ : ∃ x, l[i]?.getD default = x := ⟨_, rfl⟩
    have hc := hs.c x (by rw [← hx]; exact mem_getD hlt)
    simp -failIfUnchanged (disch := first | omega | (simp <;> omega) | fail) only [go_sem, simprocAttr, hx, eq_self]
    refine wp_loop' Nat (fun k => ⟨[(0, ES l), (1, ES l), (5, .int i), (6, .int k)], [], [], none⟩) (fun k => k ≤ x.cord.length) (fun k => x.cord.length - k) 0 (by simp) (by simp -failIfUnchanged (disch := first | omega | (simp <;> omega) | fail) only [go_sem, simprocAttr]; try rfl) ?_
    intro k hk
    have hk : k ≤ x.cord.length := hk
    simp -failIfUnchanged (disch := first | omega | (simp <;> omega) | fail) only [go_sem, simprocAttr, hx]
    refine wcond_dec (fun h2 => ?_) (fun h2 => ?_)
    · have hlt2 : k < x.cord.length := by omega
      obtain ⟨y, hy⟩ : ∃ y, x.cord[k]?.getD default = y := ⟨_, rfl⟩
      simp -failIfUnchanged (disch := first | omega | (simp <;> omega) | fail) only [go_sem, simprocAttr, hx, hy, eq_self]
      refine ⟨k + 1, by dsimp only; omega, by dsimp only; omega, ?_⟩
      simp -failIfUnchanged (disch := first | omega | (simp <;> omega) | fail) only [go_sem, simprocAttr]
      try simp
    · simp -failIfUnchanged (disch := first | omega | (simp <;> omega) | fail) only [go_sem, simprocAttr]
      refine ⟨i + 1, by dsimp only; omega, by dsimp only; omega, ?_⟩
      simp -failIfUnchanged (disch := first | omega | (simp <;> omega) | fail) only [go_sem, simprocAttr]
      try simp
  · simp -failIfUnchanged (disch := first | omega | (simp <;> omega) | fail) only [go_sem, simprocAttr]

theorem c21 (b : FB) (hs : SmF b) : Ctr Try.prog 21 [FK b, FK b] (.bool true) := by
  refine ctr_of_wp hmix Try.func21 m21 rfl ?_
  unfold v21
  simp -failIfUnchanged (disch := first | omega | (simp <;> omega) | fail) only [go_sem, simprocAttr, eq_self]
  refine wcall (c68 _ hs.ones) ?_
  simp -failIfUnchanged (disch := first | omega | (simp <;> omega) | fail) only [go_sem, simprocAttr]
  refine wcall (c68 _ hs.others) ?_
  simp -failIfUnchanged (disch := first | omega | (simp <;> omega) | fail) only [go_sem, simprocAttr]

/-- Far too much. -/
def hugL (l : List En) : Bool := decide (40 < (l.length : Int)) || l.any fun e => decide (40 < (e.cord.length : Int))
def hugF (b : FB) : Bool := hugL b.ones || hugL b.others
theorem sm_of {l : List En} (h : hugL l = false) : SmE l := by
  unfold hugL at h
  simp only [Bool.or_eq_false_iff, decide_eq_false_iff_not, List.any_eq_false, decide_eq_true_eq] at h
  exact ⟨by omega, fun e he => by have := h.2 e he; omega⟩
theorem smf_of {b : FB} (h : hugF b = false) : SmF b := by
  unfold hugF at h
  rw [Bool.or_eq_false_iff] at h
  exact ⟨sm_of h.1, sm_of h.2⟩

theorem c47 (l : List En) : Ctr Try.prog 47 [ES l] (.bool (hugL l)) := by
  refine ctr_of_wp hmix Try.func47 m47 rfl ?_
  unfold v47 hugL
  simp -failIfUnchanged (disch := first | omega | (simp <;> omega) | fail) only [go_sem, simprocAttr]
  refine wcond_dec (fun h => ?_) (fun h => ?_)
  · rw [decide_eq_true h]
    simp -failIfUnchanged (disch := first | omega | (simp <;> omega) | fail) only [go_sem, simprocAttr]
  · rw [decide_eq_false h]
    simp -failIfUnchanged (disch := first | omega | (simp <;> omega) | fail) only [go_sem, simprocAttr]
    refine wp_loop' Nat (fun i => ⟨[(0, ES l), (3, .int i)], [], [], none⟩) (fun i => i ≤ l.length ∧ ∀ x ∈ l.take i, decide (40 < (x.cord.length : Int)) = false) (fun i => l.length - i) 0 (by simp) (by simp -failIfUnchanged (disch := first | omega | (simp <;> omega) | fail) only [go_sem, simprocAttr]; try rfl) ?_
    rintro i ⟨hi, hpre⟩
    simp -failIfUnchanged (disch := first | omega | (simp <;> omega) | fail) only [go_sem, simprocAttr]
    refine wcond_dec (fun h2 => ?_) (fun h2 => ?_)
    · have hlt : i < l.length := by omega
      obtain ⟨x, hx⟩ : ∃ x, l[i]?.getD default = x := ⟨_, rfl⟩
      simp -failIfUnchanged (disch := first | omega | (simp <;> omega) | fail) only [go_sem, simprocAttr, hx]
      refine wcond_dec (fun h3 => ?_) (fun h3 => ?_)
      · rw [any_take (p := fun x : En => decide (40 < (x.cord.length : Int))) hlt hpre (by rw [hx]; exact decide_eq_true h3)]
        simp -failIfUnchanged (disch := first | omega | (simp <;> omega) | fail) only [go_sem, simprocAttr]
      · simp -failIfUnchanged (disch := first | omega | (simp <;> omega) | fail) only [go_sem, simprocAttr]
        refine ⟨i + 1, ⟨by omega, take_succ_all (p := fun x : En => decide (40 < (x.cord.length : Int))) hlt hpre (by rw [hx]; exact decide_eq_false h3)⟩, by dsimp only; omega, ?_⟩
        simp -failIfUnchanged (disch := first | omega | (simp <;> omega) | fail) only [go_sem, simprocAttr]
        try simp
    · have e : i = l.length := by omega
      rw [e, List.take_length] at hpre
      rw [any_none (p := fun x : En => decide (40 < (x.cord.length : Int))) hpre]
      simp -failIfUnchanged (disch := first | omega | (simp <;> omega) | fail) only [go_sem, simprocAttr]

/-- What the laws leave out. -/
def farF (b : FB) : Bool := hugF b || (decide (4 < (b.ones.length : Int)) && (decide (4 < (b.others.length : Int)) && chkB b))
theorem c14 (b : FB) : Ctr Try.prog 14 [FK b] (.bool (farF b)) := by
  refine ctr_of_wp hmix Try.func14 m14 rfl ?_
  unfold v14 farF hugF
  have k1 := c47 b.ones
  have k2 := c47 b.others
  simp -failIfUnchanged (disch := first | omega | (simp <;> omega) | fail) only [go_sem, simprocAttr]
  refine wcall k1 ?_
  cases h1 : hugL b.ones with
  | true => simp -failIfUnchanged (disch := first | omega | (simp <;> omega) | fail) only [go_sem, simprocAttr]
  | false =>
    simp -failIfUnchanged (disch := first | omega | (simp <;> omega) | fail) only [go_sem, simprocAttr]
    refine wcall k2 ?_
    cases h2 : hugL b.others with
    | true => simp -failIfUnchanged (disch := first | omega | (simp <;> omega) | fail) only [go_sem, simprocAttr]
    | false =>
      have hs : SmF b := ⟨sm_of h1, sm_of h2⟩
      have k3 := c49 b hs
      unfold errF at k3
      simp -failIfUnchanged (disch := first | omega | (simp <;> omega) | fail) only [go_sem, simprocAttr]
      cases h3 : decide (4 < (b.ones.length : Int)) with
      | false => simp -failIfUnchanged (disch := first | omega | (simp <;> omega) | fail) only [go_sem, simprocAttr]
      | true =>
        simp -failIfUnchanged (disch := first | omega | (simp <;> omega) | fail) only [go_sem, simprocAttr]
        cases h4 : decide (4 < (b.others.length : Int)) with
        | false => simp -failIfUnchanged (disch := first | omega | (simp <;> omega) | fail) only [go_sem, simprocAttr]
        | true =>
          simp -failIfUnchanged (disch := first | omega | (simp <;> omega) | fail) only [go_sem, simprocAttr]
          refine wcall k3 ?_
          cases chkB b with
          | true => simp -failIfUnchanged (disch := first | omega | (simp <;> omega) | fail) only [go_sem, simprocAttr]; try simp
          | false => simp -failIfUnchanged (disch := first | omega | (simp <;> omega) | fail) only [go_sem, simprocAttr]; try simp

def rdyF (b : FB) : Bool := !hugF b && chkB b
theorem c22 (b : FB) : Ctr Try.prog 22 [FK b] (.bool (rdyF b)) := by
  refine ctr_of_wp hmix Try.func22 m22 rfl ?_
  unfold v22 rdyF hugF
  have k1 := c47 b.ones
  have k2 := c47 b.others
  simp -failIfUnchanged (disch := first | omega | (simp <;> omega) | fail) only [go_sem, simprocAttr]
  refine wcall k1 ?_
  cases h1 : hugL b.ones with
  | true => simp -failIfUnchanged (disch := first | omega | (simp <;> omega) | fail) only [go_sem, simprocAttr]
  | false =>
    simp -failIfUnchanged (disch := first | omega | (simp <;> omega) | fail) only [go_sem, simprocAttr]
    refine wcall k2 ?_
    cases h2 : hugL b.others with
    | true => simp -failIfUnchanged (disch := first | omega | (simp <;> omega) | fail) only [go_sem, simprocAttr]
    | false =>
      have hs : SmF b := ⟨sm_of h1, sm_of h2⟩
      have k3 := c49 b hs
      unfold errF at k3
      simp -failIfUnchanged (disch := first | omega | (simp <;> omega) | fail) only [go_sem, simprocAttr]
      refine wcall k3 ?_
      cases chkB b with
      | true => simp -failIfUnchanged (disch := first | omega | (simp <;> omega) | fail) only [go_sem, simprocAttr]; try simp
      | false => simp -failIfUnchanged (disch := first | omega | (simp <;> omega) | fail) only [go_sem, simprocAttr]; try simp

theorem c34 (b : FB) (hs : SmF b) (l : Int) : Ctr Try.prog 34 [FK b, .int l] (FK (lat b l)) := by
  refine ctr_of_wp hmix Try.func34 m34 rfl ?_
  unfold v34
  simp -failIfUnchanged (disch := first | omega | (simp <;> omega) | fail) only [go_sem, simprocAttr]
  refine wcall (c16 b hs) ?_
  simp -failIfUnchanged (disch := first | omega | (simp <;> omega) | fail) only [go_sem, simprocAttr]
  try simp

end Go.Proofs.Ytemnojaoickjfaa


/- Good. -/
set_option linter.unusedSimpArgs false
set_option linter.unusedVariables false
set_option linter.unnecessarySimpa false
namespace Go.Proofs.Ytemnojaoickjfaa
open Go Go.V

/-- Whether the pair at a place is so that a list can be a matching. -/
def okAt (b : FB) (l : List Pa) (i : Nat) : Bool :=
  (oneI b (l[i]?.getD default).one && othI b (l[i]?.getD default).other) &&
  (comB b.late (one b (l[i]?.getD default).one.toNat) (oth b (l[i]?.getD default).other.toNat) &&
  (!(decide (0 < i) && decide ((l[i]?.getD default).one ≤ (l[i - 1]?.getD default).one)) && !(l.take i).any fun o => decide (o.other = (l[i]?.getD default).other)))
def matB (b : FB) (l : List Pa) : Bool := (List.range l.length).all (okAt b l)
theorem matB_no {b : FB} {l : List Pa} {i : Nat} (hi : i < l.length) (h : okAt b l i = false) : matB b l = false := by
  unfold matB
  rw [List.all_eq_false]
  exact ⟨i, List.mem_range.2 hi, by rw [h]; exact Bool.false_ne_true⟩
theorem matB_yes {b : FB} {l : List Pa} (h : ∀ i, i < l.length → okAt b l i = true) : matB b l = true := by
  unfold matB
  rw [List.all_eq_true]
  exact fun i hi => h i (List.mem_range.1 hi)

end Go.Proofs.Ytemnojaoickjfaa


/- A row's arguments. -/
set_option linter.unusedSimpArgs false
set_option linter.unusedVariables false
set_option linter.unnecessarySimpa false
namespace Go.Proofs.Ytemnojaoickjfaa
open Go Go.V

theorem map_choose {α β γ : Type} {F : α → γ} {G : β → γ} {Q : β → Prop} : ∀ (es : List α), (∀ x ∈ es, ∃ s, F x = G s ∧ Q s) → ∃ l : List β, es.map F = l.map G ∧ l.length = es.length ∧ ∀ s ∈ l, Q s
  | [], _ => ⟨[], rfl, rfl, by simp⟩
  | x :: r, h => by
    obtain ⟨s, h1, h2⟩ := h x (by simp)
    obtain ⟨l, h3, h4, h5⟩ := map_choose r fun y hy => h y (by simp [hy])
    refine ⟨s :: l, by simp [h1, h3], by simp [h4], ?_⟩
    intro t ht
    rcases List.mem_cons.1 ht with rfl | ht
    · exact h2
    · exact h5 t ht

abbrev tcS : TC := .st [.int, .int]
abbrev tcE : TC := .st [.int, .int, .sl tcS]
abbrev tcF : TC := .st [.int, .int, .int, .int, .sl tcE, .sl tcE]
theorem ty_two {cs : List AV} (h : TyL [.int, .int] cs) : ∃ a c : Int, cs = [.int a, .int c] := by
  simp only [TyL] at h
  obtain ⟨a, x, rfl, ha, b, y, rfl, hb, rfl⟩ := h
  rw [Ty] at ha hb
  obtain ⟨n, _, rfl⟩ := ha
  obtain ⟨m, _, rfl⟩ := hb
  exact ⟨n, m, rfl⟩
theorem ty_sps {cs : List AV} (h : Ty (.sl tcS) cs) : ∃ l : List Sp, cs = [SS l] ∧ l.length < 9223372036854775808 := by
  rw [Ty] at h
  obtain ⟨es, rfl, h1, h2⟩ := h
  obtain ⟨l, h3, h4, _⟩ := map_choose (F := fun x => if TC.isSt tcS then AV.agg x else x[0]?.getD .und) (G := SP) (Q := fun _ => True) es (fun x hx => by
    have := h2 x hx
    rw [Ty] at this
    obtain ⟨a, c, rfl⟩ := ty_two this
    exact ⟨⟨a, c⟩, rfl, trivial⟩)
  refine ⟨l, ?_, by omega⟩
  rw [h3]
  rfl
theorem ty_es {cs : List AV} (h : Ty (.sl tcE) cs) : ∃ l : List En, cs = [ES l] ∧ l.length < 9223372036854775808 := by
  rw [Ty] at h
  obtain ⟨es, rfl, h1, h2⟩ := h
  obtain ⟨l, h3, h4, _⟩ := map_choose (F := fun x => if TC.isSt tcE then AV.agg x else x[0]?.getD .und) (G := EN) (Q := fun _ => True) es (fun x hx => by
    have := h2 x hx
    rw [Ty] at this
    simp only [TyL] at this
    obtain ⟨a, r, rfl, ha, b, r2, rfl, hb, c, r3, rfl, hc, rfl⟩ := this
    rw [Ty] at ha hb
    obtain ⟨n, _, rfl⟩ := ha
    obtain ⟨m, _, rfl⟩ := hb
    obtain ⟨k, rfl, _⟩ := ty_sps hc
    exact ⟨⟨n, m, k⟩, rfl, trivial⟩)
  refine ⟨l, ?_, by omega⟩
  rw [h3]
  rfl
theorem ty_fk {av : AV} (h : TyV tcF av) : ∃ b : FB, av = FK b := by
  obtain ⟨cs, rfl, h⟩ := h
  simp only [TyL] at h
  obtain ⟨a, x, rfl, ha, b, y, rfl, hb, c, z, rfl, hc, d, u, rfl, hd, e, v, rfl, he, f, w, rfl, hf, rfl⟩ := h
  rw [Ty] at ha hb hc hd
  obtain ⟨n, _, rfl⟩ := ha
  obtain ⟨m, _, rfl⟩ := hb
  obtain ⟨k, _, rfl⟩ := hc
  obtain ⟨j, _, rfl⟩ := hd
  obtain ⟨l1, rfl, _⟩ := ty_es he
  obtain ⟨l2, rfl, _⟩ := ty_es hf
  exact ⟨⟨n, m, k, j, l1, l2⟩, rfl⟩
theorem ty_clr {av : AV} (h : TyV (.st [.int, .int, .int, .st [.int, .int]]) av) : ∃ (bk en pl : Int) (s : Sp), av = .agg [.int bk, .int en, .int pl, .int s.lo, .int s.hi] := by
  obtain ⟨cs, rfl, h⟩ := h
  simp only [TyL] at h
  obtain ⟨a, x, rfl, ha, b, y, rfl, hb, c, z, rfl, hc, d, u, rfl, hd, rfl⟩ := h
  rw [Ty] at ha hb hc
  simp only [Ty] at hd
  obtain ⟨n, _, rfl⟩ := ha
  obtain ⟨m, _, rfl⟩ := hb
  obtain ⟨k, _, rfl⟩ := hc
  obtain ⟨p, q, rfl⟩ := ty_two hd
  exact ⟨n, m, k, ⟨p, q⟩, rfl⟩

theorem laidOutP : laidOutB Try.prog = true := by kernel_rfl

end Go.Proofs.Ytemnojaoickjfaa


/- The document's IsMatching and Good. -/
set_option linter.unusedSimpArgs false
set_option linter.unusedVariables false
set_option linter.unnecessarySimpa false
namespace Go.Proofs.Ytemnojaoickjfaa
open Go Go.V

set_option maxRecDepth 10000 in
theorem c32 (b : FB) (hv : VF b) (l : List Pa) (hl : l.length < 4294967296) : Ctr Try.prog 32 [FK b, PS l] (.bool (matB b l)) := by
  refine ctr_of_wp hmix Try.func32 m32 rfl ?_
  unfold v32
  simp -failIfUnchanged (disch := first | omega | (simp <;> omega) | fail) only [go_sem, simprocAttr]
  refine wp_loop' Nat (fun i => ⟨[(1, PS l), (2, .ptr 2 0), (5, .int i)], [(2, ⟨FKc b, false⟩)], [], none⟩) (fun i => i ≤ l.length ∧ ∀ j, j < i → okAt b l j = true) (fun i => l.length - i) 0 (by simp) (by simp -failIfUnchanged (disch := first | omega | (simp <;> omega) | fail) only [go_sem, simprocAttr]; try simp) ?_
  rintro i ⟨hi, hpre⟩
  simp -failIfUnchanged (disch := first | omega | (simp <;> omega) | fail) only [go_sem, simprocAttr]
  refine wcond_dec (fun h => ?_) (fun h => ?_)
  · have hlt : i < l.length := by omega
    obtain ⟨p, hp⟩ : ∃ p, l[i]?.getD default = p := ⟨_, rfl⟩
    obtain ⟨q, hq⟩ : ∃ q, l[i - 1]?.getD default = q := ⟨_, rfl⟩
    have hok : okAt b l i = ((oneI b p.one && othI b p.other) && (comB b.late (one b p.one.toNat) (oth b p.other.toNat) &&
      (!(decide (0 < i) && decide (p.one ≤ q.one)) && !(l.take i).any fun o => decide (o.other = p.other)))) := by unfold okAt; rw [hp, hq]
    have a1 := c35 b p.one
    have a2 := c36 b p.other
    obtain ⟨u, hu⟩ : ∃ u, within p.one 0 (w64 ((b.ones.length : Int) - 1)) = u := ⟨_, rfl⟩
    obtain ⟨v, hvv⟩ : ∃ v, within p.other 0 (w64 ((b.others.length : Int) - 1)) = v := ⟨_, rfl⟩
    have hu2 : oneI b p.one = u := hu
    have hv2 : othI b p.other = v := hvv
    rw [hu2, hv2] at hok
    rw [hu] at a1
    rw [hvv] at a2
    have no := fun h => matB_no (b := b) hlt h
    simp -failIfUnchanged (disch := first | omega | (simp <;> omega) | fail) only [go_sem, simprocAttr, hp]
    refine wcall a1 ?_
    cases u with
    | false =>
      rw [no (by rw [hok]; rfl)]
      simp -failIfUnchanged (disch := first | omega | (simp <;> omega) | fail) only [go_sem, simprocAttr]
      try simp
    | true =>
      simp -failIfUnchanged (disch := first | omega | (simp <;> omega) | fail) only [go_sem, simprocAttr, hp]
      refine wcall a2 ?_
      cases v with
      | false =>
        rw [no (by rw [hok]; rfl)]
        simp -failIfUnchanged (disch := first | omega | (simp <;> omega) | fail) only [go_sem, simprocAttr]
        try simp
      | true =>
        obtain ⟨m, hm, hmp⟩ := in_n hv.n1 hu
        obtain ⟨n, hn, hnp⟩ := in_n hv.n2 hvv
        rw [hm, hn, Int.toNat_natCast, Int.toNat_natCast] at hok
        have x1 := (one_v hv hmp).c
        have x2 := (oth_v hv hnp).c
        have hpl := hv.pl
        have hn2 := x2.n
        have a4 := c76 b (one b m) (oth b n) (by rw [both_len x1 x2]; exact Nat.le_refl _) (by omega)
        have g1 : b.ones[m]?.getD default = one b m := rfl
        have g2 : b.others[n]?.getD default = oth b n := rfl
        obtain ⟨pk, hpk⟩ : ∃ pk, (decide (0 < i) && decide ((m : Int) ≤ q.one)) = pk := ⟨_, rfl⟩
        rw [hpk] at hok
        obtain ⟨po, pt⟩ := p
        dsimp only at hm hn
        subst hm
        subst hn
        simp -failIfUnchanged (disch := first | omega | (simp <;> omega) | fail) only [go_sem, simprocAttr, hp, g1, g2]
        refine wcall a4 ?_
        cases hcm : comB b.late (one b m) (oth b n) with
        | false =>
          rw [hcm] at hok
          rw [no (by rw [hok]; rfl)]
          simp -failIfUnchanged (disch := first | omega | (simp <;> omega) | fail) only [go_sem, simprocAttr]
          try simp
        | true =>
          rw [hcm] at hok
          simp -failIfUnchanged (disch := first | omega | (simp <;> omega) | fail) only [go_sem, simprocAttr]
          cases pk with
          | true =>
            rw [Bool.and_eq_true] at hpk
            have h0 : decide (0 < (i : Int)) = true := decide_eq_true (by have := of_decide_eq_true hpk.1; omega)
            have hi1 : ((i : Int) - 1).toNat = i - 1 := by have := of_decide_eq_true hpk.1; omega
            rw [no (by rw [hok]; rfl)]
            have hpk2 := hpk.2
            have h0' := of_decide_eq_true h0
            simp -failIfUnchanged (disch := first | omega | (simp <;> omega) | fail) only [go_sem, simprocAttr, h0, hi1, hp, hq, hpk2]
            try simp
          | false =>
          refine tailed (T := ?T) (fun tail => ?mm) ?tt
          case mm =>
            cases h0 : decide (0 < (i : Int)) with
            | false =>
              simp -failIfUnchanged (disch := first | omega | (simp <;> omega) | fail) only [go_sem, simprocAttr]
              exact tail.out
            | true =>
              have h0' := of_decide_eq_true h0
              have : decide (0 < i) = true := decide_eq_true (by omega)
              rw [this, Bool.true_and] at hpk
              have hi1 : ((i : Int) - 1).toNat = i - 1 := by omega
              simp -failIfUnchanged (disch := first | omega | (simp <;> omega) | fail) only [go_sem, simprocAttr, hi1, hp, hq, hpk]
              exact tail.out
          case tt =>
            refine wp_loop' Nat (fun k => ⟨[(1, PS l), (2, .ptr 2 0), (5, .int i), (6, .int k)], [(2, ⟨FKc b, false⟩)], [], none⟩) (fun k => k ≤ i ∧ ∀ x ∈ l.take k, decide (x.other = (n : Int)) = false) (fun k => i - k) 0 (by simp) (by simp -failIfUnchanged (disch := first | omega | (simp <;> omega) | fail) only [go_sem, simprocAttr]; try simp) ?_
            rintro k ⟨hk, hkp⟩
            simp -failIfUnchanged (disch := first | omega | (simp <;> omega) | fail) only [go_sem, simprocAttr]
            refine wcond_dec (fun h3 => ?_) (fun h3 => ?_)
            · have hki : k < i := by omega
              obtain ⟨y, hy⟩ : ∃ y, l[k]?.getD default = y := ⟨_, rfl⟩
              simp -failIfUnchanged (disch := first | omega | (simp <;> omega) | fail) only [go_sem, simprocAttr, hy, hp]
              refine wcond_dec (fun h4 => ?_) (fun h4 => ?_)
              · have : ((l.take i).any fun o => decide (o.other = (n : Int))) = true := by
                  rw [List.any_eq_true]
                  refine ⟨y, ?_, decide_eq_true h4⟩
                  rw [← hy, List.getElem?_eq_getElem (by omega : k < l.length)]
                  exact List.mem_take_iff_getElem.2 ⟨k, by omega, rfl⟩
                rw [this] at hok
                rw [no (by rw [hok]; simp)]
                simp -failIfUnchanged (disch := first | omega | (simp <;> omega) | fail) only [go_sem, simprocAttr]
                try simp
              · simp -failIfUnchanged (disch := first | omega | (simp <;> omega) | fail) only [go_sem, simprocAttr]
                refine ⟨k + 1, ⟨by omega, take_succ_all (p := fun x : Pa => decide (x.other = (n : Int))) (by omega) hkp (by rw [hy]; exact decide_eq_false h4)⟩, by dsimp only; omega, ?_⟩
                simp -failIfUnchanged (disch := first | omega | (simp <;> omega) | fail) only [go_sem, simprocAttr]
                try simp
            · have e : k = i := by omega
              subst e
              rw [any_none (p := fun x : Pa => decide (x.other = (n : Int))) hkp] at hok
              simp -failIfUnchanged (disch := first | omega | (simp <;> omega) | fail) only [go_sem, simprocAttr]
              refine ⟨k + 1, ⟨by omega, fun j hj => ?_⟩, by dsimp only; omega, ?_⟩
              · by_cases e : j = k
                · subst e
                  rw [hok]
                  rfl
                · exact hpre j (by omega)
              · simp -failIfUnchanged (disch := first | omega | (simp <;> omega) | fail) only [go_sem, simprocAttr]
                try simp
  · have e : i = l.length := by omega
    rw [matB_yes (b := b) (l := l) fun j hj => hpre j (by omega)]
    simp -failIfUnchanged (disch := first | omega | (simp <;> omega) | fail) only [go_sem, simprocAttr]
    try simp

end Go.Proofs.Ytemnojaoickjfaa

