/- Merged by program: B1, B2, B3, B4, B5, T303, T304, T305, T306, T307, T308, T309, T310, T311, T312, T313, T314, T315, T316, T317, T401, T402, T403, T404, T405, T406, T407, T408, T409, T410, T411, T412, T413, T414, T415, T416, T417, T418, T419, T420. -/
import Derived.Test.YtpangdaijhiohaaGreatDoorM4
import Derived.Handy
set_option linter.unusedSimpArgs false
set_option linter.unusedVariables false
set_option linter.unnecessarySimpa false
namespace Go.Proofs.YtpangdaijhiohaaGreatDoor.Bu
def S : Nat → (Nat → Int) → Int
 | 0, _ => 0
 | n + 1, f => S n f + f n
theorem S_congr {n : Nat} {f g : Nat → Int} (h : ∀ i, i < n → f i = g i) : S n f = S n g := by
 induction n with
 | zero => rfl
 | succ n ih => simp only [S]; rw [ih fun i hi => h i (by omega), h n (by omega)]
theorem S_le {n : Nat} {f g : Nat → Int} (h : ∀ i, i < n → f i ≤ g i) : S n f ≤ S n g := by
 induction n with
 | zero => exact Int.le_refl _
 | succ n ih =>
  simp only [S]
  have := ih fun i hi => h i (by omega)
  have := h n (by omega)
  omega
theorem S_add {n : Nat} {f g : Nat → Int} : S n (fun i => f i + g i) = S n f + S n g := by
 induction n with
 | zero => rfl
 | succ n ih => simp only [S]; rw [ih]; omega
theorem S_sub {n : Nat} {f g : Nat → Int} : S n (fun i => f i - g i) = S n f - S n g := by
 induction n with
 | zero => rfl
 | succ n ih => simp only [S]; rw [ih]; omega
theorem S_zero {n : Nat} : S n (fun _ => 0) = 0 := by
 induction n with
 | zero => rfl
 | succ n ih => simp only [S]; rw [ih]; rfl
theorem S_nonneg {n : Nat} {f : Nat → Int} (h : ∀ i, i < n → 0 ≤ f i) : 0 ≤ S n f := by
 have := S_le (f := fun _ => 0) h
 rw [S_zero] at this
 exact this
theorem S_one {n k : Nat} {c : Int} (hk : k < n) : S n (fun i => if i = k then c else 0) = c := by
 induction n with
 | zero => omega
 | succ n ih =>
  simp only [S]
  by_cases h : n = k
  ·subst h
   rw [if_pos rfl, S_congr (g := fun _ => 0) fun i hi => if_neg (by omega), S_zero]
   omega
  ·rw [if_neg h, ih (by omega)]
   omega
structure Gr where
 H : Nat
 W : Nat
 N : Nat
 hs : Nat → Int
 ws : Nat → Int
 hn : Nat → Nat
 wn : Nat → Nat
structure GV (G : Gr) : Prop where
 hn : ∀ i, i < G.N → G.hn i < G.H
 wn : ∀ i, i < G.N → G.wn i < G.W
 hs : ∀ h, h < G.H → 0 ≤ G.hs h
 ws : ∀ w, w < G.W → 0 ≤ G.ws w
def drw (G : Gr) (d : Nat → Int) (h : Nat) : Int := S G.N fun i => if G.hn i = h then d i else 0
def giv (G : Gr) (d : Nat → Int) (w : Nat) : Int := S G.N fun i => if G.wn i = w then d i else 0
def lk (G : Gr) (d : Nat → Int) (h : Nat) : Int := G.hs h - drw G d h
def hz (G : Gr) (d : Nat → Int) (w : Nat) : Int := G.ws w - giv G d w
structure Dv (G : Gr) (d : Nat → Int) : Prop where
 nn : ∀ i, i < G.N → 0 ≤ d i
 lk : ∀ h, h < G.H → 0 ≤ lk G d h
 hz : ∀ w, w < G.W → 0 ≤ hz G d w
inductive Nd where
 | w (n : Nat)
 | h (n : Nat)
 | s
 deriving DecidableEq
inductive E (G : Gr) (d : Nat → Int) : Nd → Nd → Prop
 | up (i : Nat) (hi : i < G.N) : E G d (.w (G.wn i)) (.h (G.hn i))
 | dn (i : Nat) (hi : i < G.N) (h : 0 < d i) : E G d (.h (G.hn i)) (.w (G.wn i))
 | out (w : Nat) (hw : w < G.W) (h : 0 < hz G d w) : E G d .s (.w w)
 | back (w : Nat) (hw : w < G.W) (h : hz G d w < G.ws w) : E G d (.w w) .s
inductive R (G : Gr) (d : Nat → Int) (x : Nd) : Nd → Prop
 | refl : R G d x x
 | step {y z : Nd} (h : R G d x y) (e : E G d y z) : R G d x z
theorem R.trans {G : Gr} {d : Nat → Int} {x y z : Nd} (h : R G d x y) (k : R G d y z) : R G d x z := by
 induction k with
 | refl => exact h
 | step _ e ih => exact .step ih e
theorem R.head {G : Gr} {d : Nat → Int} {x y z : Nd} (e : E G d x y) (k : R G d y z) : R G d x z := R.trans (.step .refl e) k
def Inv (G : Gr) (d : Nat → Int) : Prop := ∀ h k, h < G.H → k < G.H → R G d (.h h) (.h k) → lk G d k ≤ lk G d h + 1
def Fin (G : Gr) (d : Nat → Int) : Prop := ∀ h, h < G.H → R G d .s (.h h) → lk G d h ≤ 0
def pos (n : Int) : Int := if 0 < n then n else 0
def over (H : Nat) (l : Nat → Int) (u : Int) : Int := S H fun h => pos (l h - u)
open Classical in
theorem inv_step {G : Gr} {d d' : Nat → Int} (hi : Inv G d) {e : Nat} (he : e < G.H) (P : Nd → Prop)
  (hP : ∀ x, P x → R G d .s x ∧ R G d x (.h e)) (hE : ∀ x y, E G d' x y → E G d x y ∨ (P x ∧ P y)) (hre : R G d .s (.h e))
  (hl : ∀ h, h < G.H → lk G d' h = if h = e then lk G d h - 1 else lk G d h)
  (hm : ∀ h, h < G.H → R G d .s (.h h) → lk G d h ≤ lk G d e) : Inv G d' := by
 have hR : ∀ {a b : Nd}, R G d' a b → R G d a b ∨ ((∃ x, P x ∧ R G d a x) ∧ R G d .s b) := by
  intro a b h
  induction h with
  | refl => exact .inl .refl
  | step _ q ih =>
   rcases hE _ _ q with q | ⟨p1, p2⟩
   ·rcases ih with ih | ⟨ih, s⟩
    ·exact .inl (.step ih q)
    ·exact .inr ⟨ih, .step s q⟩
   ·rcases ih with ih | ⟨ih, s⟩
    ·exact .inr ⟨⟨_, p1, ih⟩, (hP _ p2).1⟩
    ·exact .inr ⟨ih, (hP _ p2).1⟩
 intro h k hh hk r
 rw [hl h hh, hl k hk]
 have hs : R G d .s (.h k) → lk G d k ≤ lk G d e := hm k hk
 rcases hR r with r | ⟨⟨x, px, rx⟩, s⟩
 ·have h1 := hi h k hh hk r
  by_cases e1 : h = e
  ·have h2 := hs (.trans hre (e1 ▸ r))
   rw [if_pos e1, e1]
   split <;> omega
  ·rw [if_neg e1]
   split <;> omega
 ·have h1 := hi h e hh he (.trans rx (hP x px).2)
  have h2 := hs s
  by_cases e1 : h = e
  ·rw [if_pos e1, e1]
   split <;> omega
  ·rw [if_neg e1]
   split <;> omega
end Go.Proofs.YtpangdaijhiohaaGreatDoor.Bu

set_option linter.unusedSimpArgs false
set_option linter.unusedVariables false
set_option linter.unnecessarySimpa false
namespace Go.Proofs.YtpangdaijhiohaaGreatDoor.Bu
structure Ar where
 f : Nat
 t : Nat
 c : Int
 y : Int
 m : Int
 deriving Inhabited
abbrev cA (l : List Int) (n : Nat) : Int := l[n]?.getD default
abbrev bA (l : List Ar) (n : Nat) : Ar := l[n]?.getD default
def far : Int := 1152921504606846976
theorem cA_set {l : List Int} {i j : Nat} {x : Int} (h : i < l.length) : cA (l.set i x) j = if i = j then x else cA l j := by
 unfold cA
 rw [List.getElem?_set]
 by_cases e : i = j
 ·rw [if_pos e, if_pos e, if_pos (e ▸ h)]; rfl
 ·rw [if_neg e, if_neg e]
theorem bA_set {l : List Ar} {i j : Nat} {x : Ar} (h : i < l.length) : bA (l.set i x) j = if i = j then x else bA l j := by
 unfold bA
 rw [List.getElem?_set]
 by_cases e : i = j
 ·rw [if_pos e, if_pos e, if_pos (e ▸ h)]; rfl
 ·rw [if_neg e, if_neg e]
abbrev St := List Int × List Ar
def rlx (s : St) (a : Ar) : St := if cA s.1 a.f < far ∧ cA s.1 a.f + a.c < cA s.1 a.t then (s.1.set a.t (cA s.1 a.f + a.c), s.2.set a.t a) else s
def rnd (A : List Ar) (s : St) : St := A.foldl rlx s
def rnds (A : List Ar) (s : St) : Nat → St
 | 0 => s
 | k + 1 => rnd A (rnds A s k)
def st0 (n src : Nat) : St := ((List.replicate n far).set src 0, List.replicate n default)
def Lx (π : Nat → Int) (s : St) (τ : Nat → Nat) (p x : Nat) : Prop := cA s.1 p - π p < cA s.1 x - π x ∨ (cA s.1 p - π p = cA s.1 x - π x ∧ τ p < τ x)
theorem Lx.trans {π : Nat → Int} {s : St} {τ : Nat → Nat} {x y z : Nat} (h : Lx π s τ x y) (k : Lx π s τ y z) : Lx π s τ x z := by
 rcases h with h | ⟨h, h'⟩ <;> rcases k with k | ⟨k, k'⟩
 ·exact .inl (by omega)
 ·exact .inl (by omega)
 ·exact .inl (by omega)
 ·exact .inr ⟨by omega, by omega⟩
theorem Lx.irr {π : Nat → Int} {s : St} {τ : Nat → Nat} {x : Nat} (h : Lx π s τ x x) : False := by
 rcases h with h | ⟨h, h'⟩ <;> omega
structure AOK (A : List Ar) (π : Nat → Int) (n : Nat) : Prop where
 f : ∀ a ∈ A, a.f < n
 t : ∀ a ∈ A, a.t < n
 r : ∀ a ∈ A, 0 ≤ a.c + π a.f - π a.t
structure J (A : List Ar) (π : Nat → Int) (n src : Nat) (s : St) (τ : Nat → Nat) (T : Nat) : Prop where
 l1 : s.1.length = n
 l2 : s.2.length = n
 s0 : cA s.1 src = 0
 lo : ∀ x, x < n → cA s.1 x < far → π x - π src ≤ cA s.1 x
 tT : ∀ x, τ x ≤ T
 bb : ∀ x, x < n → x ≠ src → cA s.1 x < far → bA s.2 x ∈ A ∧ (bA s.2 x).t = x ∧ cA s.1 (bA s.2 x).f < far ∧ cA s.1 (bA s.2 x).f + (bA s.2 x).c ≤ cA s.1 x ∧ Lx π s τ (bA s.2 x).f x
theorem J_rlx {A : List Ar} {π : Nat → Int} {n src : Nat} {s : St} {τ : Nat → Nat} {T : Nat} (hA : AOK A π n) (hs : src < n) (h : J A π n src s τ T) {a : Ar} (ha : a ∈ A) : ∃ τ' T', J A π n src (rlx s a) τ' T' := by
 unfold rlx
 by_cases hc : cA s.1 a.f < far ∧ cA s.1 a.f + a.c < cA s.1 a.t
 ·rw [if_pos hc]
  have hf := hA.f a ha
  have ht := hA.t a ha
  have hr := hA.r a ha
  have l1 := h.l1
  have l2 := h.l2
  have hlf := h.lo a.f hf hc.1
  have hne : a.t ≠ src := by
   intro e
   have := h.s0
   rw [e] at hc hr
   omega
  have hft : a.f ≠ a.t := by
   intro e
   rw [e] at hc hr
   omega
  have g1 : ∀ x, cA (s.1.set a.t (cA s.1 a.f + a.c)) x = if a.t = x then cA s.1 a.f + a.c else cA s.1 x := fun x => cA_set (by omega)
  have g2 : ∀ x, bA (s.2.set a.t a) x = if a.t = x then a else bA s.2 x := fun x => bA_set (by omega)
  refine ⟨fun x => if x = a.t then T + 1 else τ x, T + 1, ⟨by simp [l1], by simp [l2], ?_, ?_, ?_, ?_⟩⟩
  ·show cA (s.1.set _ _) src = 0
   rw [g1, if_neg hne]
   exact h.s0
  ·intro x hx
   show cA (s.1.set _ _) x < far → _ ≤ cA (s.1.set _ _) x
   rw [g1]
   by_cases e : a.t = x
   ·rw [if_pos e, ← e]
    intro _
    omega
   ·rw [if_neg e]
    exact h.lo x hx
  ·intro x
   have := h.tT x
   show (if x = a.t then T + 1 else τ x) ≤ T + 1
   split <;> omega
  ·intro x hx hxs
   simp only [Lx, g1, g2]
   by_cases e : a.t = x
   ·subst e
    rw [if_pos rfl, if_pos rfl, if_neg (Ne.symm hft)]
    intro _
    refine ⟨ha, rfl, hc.1, Int.le_refl _, ?_⟩
    rw [if_neg hft, if_pos rfl]
    have := h.tT a.f
    rcases Int.lt_or_le 0 (a.c + π a.f - π a.t) with h0 | h0
    ·exact .inl (by omega)
    ·exact .inr ⟨by omega, by omega⟩
   ·rw [if_neg e, if_neg e]
    intro hlt
    obtain ⟨b1, b2, b3, b4, b5⟩ := h.bb x hx hxs hlt
    unfold Lx at b5
    by_cases e2 : a.t = (bA s.2 x).f
    ·rw [if_pos e2]
     rw [← e2] at b3 b4 b5
     refine ⟨b1, b2, by omega, by omega, .inl ?_⟩
     rw [← e2]
     rcases b5 with b5 | b5 <;> omega
    ·rw [if_neg e2, if_neg (Ne.symm e2), if_neg (Ne.symm e)]
     exact ⟨b1, b2, b3, b4, b5⟩
 ·rw [if_neg hc]
  exact ⟨τ, T, h⟩
theorem J_fold {A : List Ar} {π : Nat → Int} {n src : Nat} (hA : AOK A π n) (hs : src < n) (L : List Ar) (hL : ∀ a ∈ L, a ∈ A) :
  ∀ {s : St} {τ : Nat → Nat} {T : Nat}, J A π n src s τ T → ∃ τ' T', J A π n src (L.foldl rlx s) τ' T' := by
 induction L with
 | nil => intro s τ T h; exact ⟨τ, T, h⟩
 | cons a L ih =>
  intro s τ T h
  obtain ⟨τ', T', h'⟩ := J_rlx hA hs h (hL a (by simp))
  exact ih (fun b hb => hL b (by simp [hb])) h'
theorem J_st0 {A : List Ar} {π : Nat → Int} {n src : Nat} (hs : src < n) : J A π n src (st0 n src) (fun _ => 0) 0 := by
 have g : ∀ x, cA ((List.replicate n far).set src 0) x = if src = x then 0 else cA (List.replicate n far) x := fun x => cA_set (by simpa using hs)
 have g' : ∀ x, x < n → cA (List.replicate n far) x = far := fun x hx => by simp [cA, hx]
 refine ⟨by simp [st0], by simp [st0], ?_, ?_, fun _ => Nat.le_refl _, ?_⟩
 ·show cA ((List.replicate n far).set src 0) src = 0
  rw [g, if_pos rfl]
 ·intro x hx
  show cA ((List.replicate n far).set src 0) x < far → _ ≤ cA ((List.replicate n far).set src 0) x
  rw [g]
  by_cases e : src = x
  ·rw [if_pos e, e]; intro _; omega
  ·rw [if_neg e, g' x hx]; intro h; omega
 ·intro x hx hxs
  show cA ((List.replicate n far).set src 0) x < far → _
  rw [g, if_neg (Ne.symm hxs), g' x hx]
  intro h; omega
theorem J_rnds {A : List Ar} {π : Nat → Int} {n src : Nat} (hA : AOK A π n) (hs : src < n) (k : Nat) : ∃ τ T, J A π n src (rnds A (st0 n src) k) τ T := by
 induction k with
 | zero => exact ⟨_, _, J_st0 hs⟩
 | succ k ih =>
  obtain ⟨τ, T, h⟩ := ih
  exact J_fold hA hs A (fun _ h => h) h
theorem rlx_le (s : St) (a : Ar) (x : Nat) : cA (rlx s a).1 x ≤ cA s.1 x := by
 unfold rlx
 split
 ·rename_i hc
  rcases Nat.lt_or_ge a.t s.1.length with h | h
  ·show cA (s.1.set _ _) x ≤ _
   rw [cA_set h]
   split
   ·rename_i e; rw [← e]; omega
   ·exact Int.le_refl _
  ·show cA (s.1.set _ _) x ≤ _
   rw [List.set_eq_of_length_le h]; exact Int.le_refl _
 ·exact Int.le_refl _
theorem fold_le (L : List Ar) : ∀ (s : St) (x : Nat), cA (L.foldl rlx s).1 x ≤ cA s.1 x := by
 induction L with
 | nil => intro s x; exact Int.le_refl _
 | cons a L ih => intro s x; exact Int.le_trans (ih _ x) (rlx_le s a x)
theorem rlx_len (s : St) (a : Ar) : (rlx s a).1.length = s.1.length ∧ (rlx s a).2.length = s.2.length := by
 unfold rlx
 split <;> simp
theorem fold_len (L : List Ar) : ∀ (s : St), (L.foldl rlx s).1.length = s.1.length ∧ (L.foldl rlx s).2.length = s.2.length := by
 induction L with
 | nil => intro s; exact ⟨rfl, rfl⟩
 | cons a L ih => intro s; have := ih (rlx s a); have h2 := rlx_len s a; simp only [List.foldl_cons]; omega
theorem fold_hit (L : List Ar) : ∀ (s : St) (a : Ar), a ∈ L → (∀ b ∈ L, b.t < s.1.length) → cA s.1 a.f < far → cA (L.foldl rlx s).1 a.t ≤ cA s.1 a.f + a.c := by
 induction L with
 | nil => intro s a ha; simp at ha
 | cons b L ih =>
  intro s a ha hb hf
  simp only [List.foldl_cons]
  rcases List.mem_cons.1 ha with e | ha
  ·subst e
   refine Int.le_trans (fold_le L _ _) ?_
   unfold rlx
   by_cases hc : cA s.1 a.f < far ∧ cA s.1 a.f + a.c < cA s.1 a.t
   ·rw [if_pos hc]
    show cA (s.1.set _ _) a.t ≤ _
    rw [cA_set (hb a (by simp)), if_pos rfl]; exact Int.le_refl _
   ·rw [if_neg hc]
    have : ¬ cA s.1 a.f + a.c < cA s.1 a.t := fun h => hc ⟨hf, h⟩
    omega
  ·have h1 := rlx_le s b a.f
   have := ih (rlx s b) a ha (fun c hc => by have := hb c (by simp [hc]); have := rlx_len s b; omega) (by omega)
   omega
theorem rnds_len {A : List Ar} {s : St} (k : Nat) : (rnds A s k).1.length = s.1.length ∧ (rnds A s k).2.length = s.2.length := by
 induction k with
 | zero => exact ⟨rfl, rfl⟩
 | succ k ih => have := fold_len A (rnds A s k); show (A.foldl rlx (rnds A s k)).1.length = _ ∧ (A.foldl rlx (rnds A s k)).2.length = _; omega
theorem rnds_le {A : List Ar} {s : St} {k m : Nat} (h : k ≤ m) (x : Nat) : cA (rnds A s m).1 x ≤ cA (rnds A s k).1 x := by
 induction m with
 | zero => have : k = 0 := by omega
           subst this; exact Int.le_refl _
 | succ m ih =>
  by_cases e : k = m + 1
  ·subst e; exact Int.le_refl _
  ·exact Int.le_trans (fold_le A _ x) (ih (by omega))
def cnt (n : Nat) (p : Nat → Prop) [DecidablePred p] : Int := S n fun i => if p i then 1 else 0
theorem cnt_lt {n : Nat} {p q : Nat → Prop} [DecidablePred p] [DecidablePred q] (h : ∀ i, i < n → p i → q i) {k : Nat} (hk : k < n) (h1 : ¬ p k) (h2 : q k) : cnt n p + 1 ≤ cnt n q := by
 have : cnt n p + 1 = S n (fun i => (if p i then 1 else 0) + (if i = k then 1 else 0)) := by rw [S_add, S_one hk]; rfl
 rw [this]
 refine S_le fun i hi => ?_
 by_cases e : i = k
 ·subst e; rw [if_neg h1, if_pos rfl, if_pos h2]; decide
 ·rw [if_neg e]
  by_cases hp : p i
  ·rw [if_pos hp, if_pos (h i hi hp)]; decide
  ·rw [if_neg hp]; split <;> decide
theorem cnt_le {n : Nat} {p : Nat → Prop} [DecidablePred p] : cnt n p ≤ n := by
 have : cnt n p ≤ S n (fun _ => 1) := S_le fun i _ => by split <;> decide
 have h1 : S n (fun _ => 1) = n := by
  clear this
  induction n with
  | zero => rfl
  | succ n ih => simp only [S]; rw [ih]; omega
 omega
open Classical in
theorem still {A : List Ar} {s : St} {n src : Nat} (hs : src < n) (h0 : cA s.1 src ≤ 0) : ∃ k, k < n ∧ ∀ x, x < n → cA (rnds A s (k + 1)).1 x ≤ 0 → cA (rnds A s k).1 x ≤ 0 := by
 have h : ∀ m, m ≤ n → (∃ k, k < m ∧ ∀ x, x < n → cA (rnds A s (k + 1)).1 x ≤ 0 → cA (rnds A s k).1 x ≤ 0) ∨ (m : Int) + 1 ≤ cnt n (fun x => cA (rnds A s m).1 x ≤ 0) := by
  intro m
  induction m with
  | zero =>
   intro _
   refine .inr ?_
   have := cnt_lt (n := n) (p := fun _ => False) (q := fun x => cA (rnds A s 0).1 x ≤ 0) (fun _ _ h => h.elim) hs (fun h => h) h0
   have h1 : cnt n (fun _ => False) = 0 := by unfold cnt; rw [S_congr (g := fun _ => 0) fun i _ => if_neg (fun h => h), S_zero]
   omega
  | succ m ih =>
   intro hm
   rcases ih (by omega) with ⟨k, hk, h⟩ | h
   ·exact .inl ⟨k, by omega, h⟩
   ·by_cases hq : ∀ x, x < n → cA (rnds A s (m + 1)).1 x ≤ 0 → cA (rnds A s m).1 x ≤ 0
    ·exact .inl ⟨m, by omega, hq⟩
    ·refine .inr ?_
     obtain ⟨x, hx⟩ := Classical.not_forall.1 hq
     have hx1 : x < n := Classical.byContradiction fun h => hx fun h' => absurd h' h
     have hx2 : cA (rnds A s (m + 1)).1 x ≤ 0 := Classical.byContradiction fun h => hx fun _ h' => absurd h' h
     have hx3 : ¬ cA (rnds A s m).1 x ≤ 0 := fun h => hx fun _ _ => h
     have := cnt_lt (n := n) (p := fun x => cA (rnds A s m).1 x ≤ 0) (q := fun x => cA (rnds A s (m + 1)).1 x ≤ 0) (fun i _ h => Int.le_trans (rnds_le (by omega) i) h) hx1 hx3 hx2
     omega
 rcases h n (Nat.le_refl _) with h | h
 ·exact h
 ·have := cnt_le (n := n) (p := fun x => cA (rnds A s n).1 x ≤ 0)
  omega
inductive Ch (b : List Ar) (src : Nat) : Nat → List Ar → Prop
 | nil : Ch b src src []
 | cons {x : Nat} {l : List Ar} (h : x ≠ src) (k : Ch b src (bA b x).f l) : Ch b src x (bA b x :: l)
open Classical in
theorem chain {A : List Ar} {π : Nat → Int} {n src : Nat} {s : St} {τ : Nat → Nat} {T : Nat} (hA : AOK A π n) (h : J A π n src s τ T) :
  ∀ (k : Nat) (x : Nat), x < n → cA s.1 x < far → cnt n (fun y => Lx π s τ y x) ≤ k → ∃ l, Ch s.2 src x l ∧ l.length ≤ k + 1 := by
 intro k
 induction k with
 | zero =>
  intro x hx hf hk
  by_cases e : x = src
  ·subst e; exact ⟨[], .nil, by simp⟩
  ·obtain ⟨b1, b2, b3, b4, b5⟩ := h.bb x hx e hf
   have h1 := cnt_lt (n := n) (p := fun _ => False) (q := fun y => Lx π s τ y x) (fun _ _ h => h.elim) (hA.f _ b1) (fun h => h) b5
   have h2 : cnt n (fun _ => False) = 0 := by unfold cnt; rw [S_congr (g := fun _ => 0) fun i _ => if_neg (fun h => h), S_zero]
   omega
 | succ k ih =>
  intro x hx hf hk
  by_cases e : x = src
  ·subst e; exact ⟨[], .nil, by simp⟩
  ·obtain ⟨b1, b2, b3, b4, b5⟩ := h.bb x hx e hf
   have h1 := cnt_lt (n := n) (p := fun y => Lx π s τ y (bA s.2 x).f) (q := fun y => Lx π s τ y x) (fun _ _ h => h.trans b5) (hA.f _ b1) (fun h => h.irr) b5
   obtain ⟨l, hl, hn⟩ := ih _ (hA.f _ b1) b3 (by omega)
   exact ⟨_, .cons e hl, by simp; omega⟩
theorem chain' {A : List Ar} {π : Nat → Int} {n src : Nat} {s : St} {τ : Nat → Nat} {T : Nat} (hA : AOK A π n) (h : J A π n src s τ T) {x : Nat} (hx : x < n) (hf : cA s.1 x < far) : ∃ l, Ch s.2 src x l ∧ l.length ≤ n + 1 := by
 classical
 exact chain hA h n x hx hf cnt_le
theorem ch_lx {A : List Ar} {π : Nat → Int} {n src : Nat} {s : St} {τ : Nat → Nat} {T : Nat} (hA : AOK A π n) (h : J A π n src s τ T) {x : Nat} {l : List Ar} (hc : Ch s.2 src x l) :
  x < n → cA s.1 x < far → (∀ a ∈ l, a ∈ A ∧ (a.t = x ∨ Lx π s τ a.t x) ∧ Lx π s τ a.f x ∧ cA s.1 a.f + a.c ≤ cA s.1 a.t) ∧ l.Pairwise (fun a b => a.t ≠ b.t) := by
 induction hc with
 | nil => intro _ _; exact ⟨fun a ha => by simp at ha, .nil⟩
 | @cons x l e k ih =>
  intro hx hf
  obtain ⟨b1, b2, b3, b4, b5⟩ := h.bb x hx e hf
  obtain ⟨i1, i2⟩ := ih (hA.f _ b1) b3
  refine ⟨fun a ha => ?_, .cons (fun a ha q => ?_) i2⟩
  ·rcases List.mem_cons.1 ha with q | ha
   ·subst q
    exact ⟨b1, .inl b2, b5, by rw [b2]; exact b4⟩
   ·obtain ⟨c1, c2, c3, c4⟩ := i1 a ha
    refine ⟨c1, .inr ?_, c3.trans b5, c4⟩
    rcases c2 with c2 | c2
    ·rw [c2]; exact b5
    ·exact c2.trans b5
  ·obtain ⟨c1, c2, c3, c4⟩ := i1 a ha
   rw [b2] at q
   rcases c2 with c2 | c2
   ·rw [← q] at c2; rw [← c2] at b5; exact b5.irr
   ·rw [← q] at c2; exact (c2.trans b5).irr
end Go.Proofs.YtpangdaijhiohaaGreatDoor.Bu

set_option linter.unusedSimpArgs false
set_option linter.unusedVariables false
set_option linter.unnecessarySimpa false
namespace Go.Proofs.YtpangdaijhiohaaGreatDoor.Bu
def dear (n : Int) : Int := 1000 * 7 ^ n.toNat
def Dl (n : Int) : Int := if 0 < n then dear n - dear (n - 1) else 0
theorem dl_pos {n : Int} (h : 0 < n) : ∃ k : Nat, n = (k : Int) + 1 ∧ Dl n = 6000 * 7 ^ k := by
 refine ⟨(n - 1).toNat, by omega, ?_⟩
 unfold Dl dear
 rw [if_pos h, show n.toNat = (n - 1).toNat + 1 by omega, Int.pow_succ]
 omega
theorem pow_pos7 (k : Nat) : (1 : Int) ≤ 7 ^ k := by
 induction k with
 | zero => decide
 | succ k ih => rw [Int.pow_succ]; omega
theorem pow_lt7 {a b : Nat} (h : a < b) : (7 : Int) ^ a < 7 ^ b := by
 induction b with
 | zero => omega
 | succ b ih =>
  have := pow_pos7 b
  rw [Int.pow_succ]
  by_cases e : a = b
  ·subst e; omega
  ·have := ih (by omega); omega
theorem Dl_lt {a b : Int} (h : a < b) (hb : 0 < b) : Dl a < Dl b := by
 obtain ⟨k, e, q⟩ := dl_pos hb
 rw [q]
 have := pow_pos7 k
 by_cases h0 : 0 < a
 ·obtain ⟨m, e', q'⟩ := dl_pos h0
  rw [q']
  have := pow_lt7 (show m < k by omega)
  omega
 ·unfold Dl
  rw [if_neg h0]
  omega
theorem Dl_le {a b : Int} (h : a ≤ b) : Dl a ≤ Dl b := by
 by_cases e : a = b
 ·rw [e]; exact Int.le_refl _
 ·by_cases hb : 0 < b
  ·have := Dl_lt (show a < b by omega) hb
   omega
  ·unfold Dl
   rw [if_neg hb, if_neg (by omega)]; exact Int.le_refl _
section
variable (G : Gr) (d : Nat → Int)
def sp : Nat := G.W + G.H
def sk : Nat := G.W + G.H + 1
def nn : Nat := G.W + G.H + 2
def wArc (w : Nat) : List Ar := (if 0 < hz G d w then [⟨sp G, w, 0, -1, 0⟩] else []) ++ (if hz G d w < G.ws w then [⟨w, sp G, 0, -1, 0⟩] else [])
def hArc (h : Nat) : List Ar := (if 0 < lk G d h then [⟨G.W + h, sk G, dear (lk G d h - 1) - dear (lk G d h), -1, 0⟩] else []) ++ (if lk G d h < G.hs h then [⟨sk G, G.W + h, dear (lk G d h + 1) - dear (lk G d h), -1, 0⟩] else [])
def yArc (i : Nat) : List Ar := ⟨G.wn i, G.W + G.hn i, 0, i, 1⟩ :: (if 0 < d i then [⟨G.W + G.hn i, G.wn i, 0, i, -1⟩] else [])
def arcs : List Ar := (List.range G.W).flatMap (wArc G d) ++ (List.range G.H).flatMap (hArc G d) ++ (List.range G.N).flatMap (yArc G d)
inductive Arc : Ar → Prop
 | out (w : Nat) (hw : w < G.W) (h : 0 < hz G d w) : Arc ⟨sp G, w, 0, -1, 0⟩
 | back (w : Nat) (hw : w < G.W) (h : hz G d w < G.ws w) : Arc ⟨w, sp G, 0, -1, 0⟩
 | sink (k : Nat) (hk : k < G.H) (h : 0 < lk G d k) : Arc ⟨G.W + k, sk G, dear (lk G d k - 1) - dear (lk G d k), -1, 0⟩
 | rise (k : Nat) (hk : k < G.H) (h : lk G d k < G.hs k) : Arc ⟨sk G, G.W + k, dear (lk G d k + 1) - dear (lk G d k), -1, 0⟩
 | up (i : Nat) (hi : i < G.N) : Arc ⟨G.wn i, G.W + G.hn i, 0, i, 1⟩
 | dn (i : Nat) (hi : i < G.N) (h : 0 < d i) : Arc ⟨G.W + G.hn i, G.wn i, 0, i, -1⟩
end
variable {G : Gr} {d : Nat → Int}
theorem mem_arcs {a : Ar} : a ∈ arcs G d ↔ Arc G d a := by
 unfold arcs
 simp only [List.mem_append, List.mem_flatMap, List.mem_range]
 constructor
 ·rintro ((⟨w, hw, h⟩ | ⟨k, hk, h⟩) | ⟨i, hi, h⟩)
  ·unfold wArc at h
   rcases List.mem_append.1 h with h | h
   ·split at h
    ·rename_i h0; rw [List.mem_singleton.1 h]; exact .out w hw h0
    ·simp at h
   ·split at h
    ·rename_i h0; rw [List.mem_singleton.1 h]; exact .back w hw h0
    ·simp at h
  ·unfold hArc at h
   rcases List.mem_append.1 h with h | h
   ·split at h
    ·rename_i h0; rw [List.mem_singleton.1 h]; exact .sink k hk h0
    ·simp at h
   ·split at h
    ·rename_i h0; rw [List.mem_singleton.1 h]; exact .rise k hk h0
    ·simp at h
  ·unfold yArc at h
   rcases List.mem_cons.1 h with h | h
   ·rw [h]; exact .up i hi
   ·split at h
    ·rename_i h0; rw [List.mem_singleton.1 h]; exact .dn i hi h0
    ·simp at h
 ·intro h
  cases h with
  | out w hw h => exact .inl (.inl ⟨w, hw, by simp [wArc, h]⟩)
  | back w hw h => exact .inl (.inl ⟨w, hw, by simp [wArc, h]⟩)
  | sink k hk h => exact .inl (.inr ⟨k, hk, by simp [hArc, h]⟩)
  | rise k hk h => exact .inl (.inr ⟨k, hk, by simp [hArc, h]⟩)
  | up i hi => exact .inr ⟨i, hi, by simp [yArc]⟩
  | dn i hi h => exact .inr ⟨i, hi, by simp [yArc, h]⟩
def ix (G : Gr) : Nd → Nat
 | .w n => n
 | .h n => G.W + n
 | .s => sp G
def nd (G : Gr) (x : Nat) : Nd := if x < G.W then .w x else if x < G.W + G.H then .h (x - G.W) else .s
theorem nd_w {n : Nat} (h : n < G.W) : nd G n = .w n := by unfold nd; rw [if_pos h]
theorem nd_h {n : Nat} (h : n < G.H) : nd G (G.W + n) = .h n := by
 unfold nd
 rw [if_neg (by omega), if_pos (by omega)]
 congr 1
 omega
theorem nd_s : nd G (sp G) = .s := by
 unfold nd sp
 rw [if_neg (by omega), if_neg (by omega)]
theorem e_arc {x y : Nd} (h : E G d x y) : ∃ a ∈ arcs G d, a.f = ix G x ∧ a.t = ix G y ∧ a.c = 0 := by
 cases h with
 | up i hi => exact ⟨_, mem_arcs.2 (.up i hi), rfl, rfl, rfl⟩
 | dn i hi h => exact ⟨_, mem_arcs.2 (.dn i hi h), rfl, rfl, rfl⟩
 | out w hw h => exact ⟨_, mem_arcs.2 (.out w hw h), rfl, rfl, rfl⟩
 | back w hw h => exact ⟨_, mem_arcs.2 (.back w hw h), rfl, rfl, rfl⟩
theorem arc_lt (hg : GV G) {a : Ar} (h : Arc G d a) : a.f < nn G ∧ a.t < nn G := by
 unfold nn
 cases h with
 | out w hw h => simp only [sp]; omega
 | back w hw h => simp only [sp]; omega
 | sink k hk h => simp only [sk]; omega
 | rise k hk h => simp only [sk]; omega
 | up i hi => have := hg.hn i hi; have := hg.wn i hi; dsimp only; omega
 | dn i hi h => have := hg.hn i hi; have := hg.wn i hi; dsimp only; omega
theorem arc_e (hg : GV G) {a : Ar} (h : Arc G d a) (h1 : a.f ≠ sk G) (h2 : a.t ≠ sk G) : a.c = 0 ∧ E G d (nd G a.f) (nd G a.t) := by
 cases h with
 | out w hw h => rw [nd_s, nd_w hw]; exact ⟨rfl, .out w hw h⟩
 | back w hw h => rw [nd_s, nd_w hw]; exact ⟨rfl, .back w hw h⟩
 | sink k hk h => exact absurd rfl h2
 | rise k hk h => exact absurd rfl h1
 | up i hi => rw [nd_w (hg.wn i hi), nd_h (hg.hn i hi)]; exact ⟨rfl, .up i hi⟩
 | dn i hi h => rw [nd_w (hg.wn i hi), nd_h (hg.hn i hi)]; exact ⟨rfl, .dn i hi h⟩
theorem mx (n : Nat) (p : Nat → Prop) (f : Nat → Int) : ∃ m : Int, 0 ≤ m ∧ (∀ h, h < n → p h → f h ≤ m) ∧ (m = 0 ∨ ∃ h, h < n ∧ p h ∧ f h = m) := by
 induction n with
 | zero => exact ⟨0, Int.le_refl _, fun h hh => by omega, .inl rfl⟩
 | succ n ih =>
  obtain ⟨m, h0, h1, h2⟩ := ih
  by_cases hp : p n ∧ m < f n
  ·refine ⟨f n, by omega, fun h hh ph => ?_, .inr ⟨n, by omega, hp.1, rfl⟩⟩
   by_cases e : h = n
   ·rw [e]; exact Int.le_refl _
   ·have := h1 h (by omega) ph
    omega
  ·refine ⟨m, h0, fun h hh ph => ?_, ?_⟩
   ·by_cases e : h = n
    ·rw [e] at ph ⊢
     have : ¬ m < f n := fun q => hp ⟨ph, q⟩
     omega
    ·exact h1 h (by omega) ph
   ·rcases h2 with h2 | ⟨h, hh, h2⟩
    ·exact .inl h2
    ·exact .inr ⟨h, by omega, h2⟩
theorem pot (G : Gr) (d : Nat → Int) : ∃ g : Nd → Int, ∀ x, 0 ≤ g x ∧ (∀ h, h < G.H → R G d x (.h h) → lk G d h ≤ g x) ∧ (g x = 0 ∨ ∃ h, h < G.H ∧ R G d x (.h h) ∧ lk G d h = g x) :=
 Classical.axiomOfChoice fun x => mx G.H (fun h => R G d x (.h h)) (lk G d)
def pi (G : Gr) (g : Nd → Int) (x : Nat) : Int := if x = sk G then 0 else Dl (g (nd G x))
theorem dear_dn {n : Int} (h : 0 < n) : dear (n - 1) - dear n = - Dl n := by unfold Dl; rw [if_pos h]; omega
theorem dear_up {n : Int} (h : 0 ≤ n) : dear (n + 1) - dear n = Dl (n + 1) := by
 unfold Dl
 rw [if_pos (by omega), show n + 1 - 1 = n by omega]
theorem aok (hg : GV G) (hd : Dv G d) (hi : Inv G d) {g : Nd → Int} (hgp : ∀ x, 0 ≤ g x ∧ (∀ h, h < G.H → R G d x (.h h) → lk G d h ≤ g x) ∧ (g x = 0 ∨ ∃ h, h < G.H ∧ R G d x (.h h) ∧ lk G d h = g x)) :
  AOK (arcs G d) (pi G g) (nn G) := by
 refine ⟨fun a ha => (arc_lt hg (mem_arcs.1 ha)).1, fun a ha => (arc_lt hg (mem_arcs.1 ha)).2, fun a ha => ?_⟩
 have ha := mem_arcs.1 ha
 unfold pi
 by_cases h1 : a.f = sk G
 ·rw [if_pos h1]
  cases ha with
  | out w hw h => simp only [sp, sk] at h1; omega
  | back w hw h => simp only [sk] at h1; omega
  | sink k hk h => simp only [sk] at h1; omega
  | rise k hk h =>
   rw [if_neg (by simp only [sk]; omega), nd_h hk]
   dsimp only
   have h0 := hd.lk k hk
   rw [dear_up h0]
   have : Dl (g (.h k)) ≤ Dl (lk G d k + 1) := Dl_le (by
    rcases (hgp (.h k)).2.2 with q | ⟨m, hm, r, q⟩
    ·omega
    ·have := hi k m hk hm r
     omega)
   omega
  | up i hi => have := hg.wn i hi; simp only [sk] at h1; omega
  | dn i hi h => have := hg.hn i hi; simp only [sk] at h1; omega
 ·rw [if_neg h1]
  by_cases h2 : a.t = sk G
  ·rw [if_pos h2]
   cases ha with
   | out w hw h => simp only [sk] at h2; omega
   | back w hw h => simp only [sp, sk] at h2; omega
   | sink k hk h =>
    rw [nd_h hk]
    dsimp only
    rw [dear_dn h]
    have := Dl_le ((hgp (.h k)).2.1 k hk .refl)
    omega
   | rise k hk h => exact absurd rfl h1
   | up i hi => have := hg.hn i hi; simp only [sk] at h2; omega
   | dn i hi h => have := hg.wn i hi; simp only [sk] at h2; omega
  ·rw [if_neg h2]
   obtain ⟨c, e⟩ := arc_e hg ha h1 h2
   rw [c]
   have : Dl (g (nd G a.t)) ≤ Dl (g (nd G a.f)) := Dl_le (by
    rcases (hgp (nd G a.t)).2.2 with q | ⟨m, hm, r, q⟩
    ·have := (hgp (nd G a.f)).1
     omega
    ·have := (hgp (nd G a.f)).2.1 m hm (.head e r)
     omega)
   omega
def dl : List Ar → Nat → Int
 | [], _ => 0
 | a :: l, i => (if a.y = i then a.m else 0) + dl l i
theorem S_dl {n : Nat} {a : Ar} {l : List Ar} {p : Nat → Prop} [DecidablePred p] : S n (fun i => if p i then dl (a :: l) i else 0) = S n (fun i => if p i then (if a.y = i then a.m else 0) else 0) + S n (fun i => if p i then dl l i else 0) := by
 rw [← S_add]
 refine S_congr fun i _ => ?_
 by_cases h : p i
 ·rw [if_pos h, if_pos h, if_pos h]; rfl
 ·rw [if_neg h, if_neg h, if_neg h]; rfl
theorem S_pt {n j : Nat} {m : Int} {p : Nat → Prop} [DecidablePred p] (hj : j < n) : S n (fun i => if p i then (if (j : Int) = i then m else 0) else 0) = if p j then m else 0 := by
 by_cases h : p j
 ·rw [if_pos h, S_congr (g := fun i => if i = j then m else 0) fun i _ => ?_, S_one hj]
  by_cases e : i = j
  ·subst e; rw [if_pos h, if_pos rfl, if_pos rfl]
  ·rw [if_neg e]
   split
   ·rw [if_neg (by omega)]
   ·rfl
 ·rw [if_neg h, S_congr (g := fun _ => 0) fun i _ => ?_, S_zero]
  by_cases e : i = j
  ·subst e; rw [if_neg h]
  ·split
   ·rw [if_neg (by omega)]
   ·rfl
theorem S_no {n : Nat} {m : Int} {p : Nat → Prop} [DecidablePred p] : S n (fun i => if p i then (if (-1 : Int) = i then m else 0) else 0) = 0 := by
 rw [S_congr (g := fun _ => 0) fun i _ => ?_, S_zero]
 split
 ·rw [if_neg (by omega)]
 ·rfl
def iff1 (p : Prop) [Decidable p] : Int := if p then 1 else 0
inductive Cn (G : Gr) (d : Nat → Int) : Nd → List Ar → Prop
 | nil : Cn G d .s []
 | out (w : Nat) (hw : w < G.W) (h : 0 < hz G d w) : Cn G d (.w w) [⟨sp G, w, 0, -1, 0⟩]
 | up (i : Nat) (hi : i < G.N) {l : List Ar} (k : Cn G d (.w (G.wn i)) l) : Cn G d (.h (G.hn i)) (⟨G.wn i, G.W + G.hn i, 0, i, 1⟩ :: l)
 | dn (i : Nat) (hi : i < G.N) (h : 0 < d i) {l : List Ar} (k : Cn G d (.h (G.hn i)) l) : Cn G d (.w (G.wn i)) (⟨G.W + G.hn i, G.wn i, 0, i, -1⟩ :: l)
theorem cn_of (hg : GV G) {π : Nat → Int} {s : St} {τ : Nat → Nat} {T : Nat} (hJ : J (arcs G d) π (nn G) (sp G) s τ T) {x : Nat} {l : List Ar} (hc : Ch s.2 (sp G) x l) : x < nn G → x ≠ sk G → cA s.1 x < far → (∀ a ∈ l, a.f ≠ sk G) →
  Cn G d (nd G x) l := by
 induction hc with
 | nil => intro _ _ _ _; rw [nd_s]; exact .nil
 | @cons x l e k ih =>
  intro hx hxk hfr hl
  obtain ⟨b1, b2, b3, _, _⟩ := hJ.bb x hx e hfr
  have ha := mem_arcs.1 b1
  have hf := hl (bA s.2 x) (by simp)
  have ih' := ih (arc_lt hg ha).1 hf b3 (fun a h => hl a (by simp [h]))
  clear ih hl
  generalize bA s.2 x = a at *
  subst b2
  cases ha with
  | out w hw h =>
   rw [nd_w hw]
   cases k with
   | nil => exact .out w hw h
   | cons h k => exact absurd rfl h
  | back w hw h => exact absurd rfl e
  | sink k hk h => exact absurd rfl hxk
  | rise k hk h => exact absurd rfl hf
  | up i hi =>
   rw [nd_h (hg.hn i hi)]
   have ih2 : Cn G d (nd G (G.wn i)) l := ih'
   rw [nd_w (hg.wn i hi)] at ih2
   exact .up i hi ih2
  | dn i hi h =>
   rw [nd_w (hg.wn i hi)]
   have ih2 : Cn G d (nd G (G.W + G.hn i)) l := ih'
   rw [nd_h (hg.hn i hi)] at ih2
   exact .dn i hi h ih2
theorem cn_sum (hg : GV G) {x : Nd} {l : List Ar} (hc : Cn G d x l) : (x = .s ∧ l = []) ∨ ∃ w0, w0 < G.W ∧ 0 < hz G d w0 ∧ (⟨sp G, w0, 0, -1, 0⟩ : Ar) ∈ l ∧
      (∀ k, k < G.H → S G.N (fun i => if G.hn i = k then dl l i else 0) = iff1 (x = .h k)) ∧
      (∀ w, w < G.W → S G.N (fun i => if G.wn i = w then dl l i else 0) = iff1 (w = w0) - iff1 (x = .w w)) := by
 induction hc with
 | nil => exact .inl ⟨rfl, rfl⟩
 | out w hw h =>
  refine .inr ⟨w, hw, h, by simp, fun k hk => ?_, fun v hv => ?_⟩
  ·rw [S_dl, S_no]
   simp only [dl]
   rw [S_congr (g := fun _ => 0) fun i _ => by split <;> rfl, S_zero]
   simp [iff1]
  ·rw [S_dl, S_no]
   simp only [dl]
   rw [S_congr (g := fun _ => 0) fun i _ => by split <;> rfl, S_zero]
   unfold iff1
   by_cases e : v = w
   ·subst e; simp
   ·rw [if_neg e, if_neg (by simp; omega)]; rfl
 | @up i hi l k ih =>
  refine .inr ?_
  rcases ih with ⟨ih, _⟩ | ⟨w0, h0, h1, h2, h3, h4⟩
  ·cases ih
  ·refine ⟨w0, h0, h1, by simp [h2], fun k hk => ?_, fun w hw => ?_⟩
   ·rw [S_dl, h3 k hk, S_pt hi]
    unfold iff1
    by_cases e : G.hn i = k
    ·subst e; simp
    ·rw [if_neg e, if_neg (by simp), if_neg (by simp; omega)]; rfl
   ·rw [S_dl, h4 w hw, S_pt hi]
    unfold iff1
    by_cases e : G.wn i = w
    ·subst e; simp; omega
    ·rw [if_neg e, if_neg (c := Nd.w (G.wn i) = Nd.w w) (by simp; omega)]
     simp
 | @dn i hi h l k ih =>
  refine .inr ?_
  rcases ih with ⟨ih, _⟩ | ⟨w0, h0, h1, h2, h3, h4⟩
  ·cases ih
  ·refine ⟨w0, h0, h1, by simp [h2], fun k hk => ?_, fun w hw => ?_⟩
   ·rw [S_dl, h3 k hk, S_pt hi]
    unfold iff1
    by_cases e : G.hn i = k
    ·subst e; simp
    ·rw [if_neg e, if_neg (c := Nd.h (G.hn i) = Nd.h k) (fun q => e (Nd.h.inj q)), if_neg (by simp)]; rfl
   ·rw [S_dl, h4 w hw, S_pt hi]
    unfold iff1
    by_cases e : G.wn i = w
    ·subst e; simp; omega
    ·rw [if_neg e, if_neg (c := Nd.w (G.wn i) = Nd.w w) (by simp; omega)]
     simp
theorem cn_R {x : Nd} {l : List Ar} (hg : GV G) (hc : Cn G d x l) : R G d .s x ∧ ∀ a ∈ l, R G d .s (nd G a.f) ∧ R G d .s (nd G a.t) ∧ R G d (nd G a.f) x ∧ R G d (nd G a.t) x := by
 induction hc with
 | nil => exact ⟨.refl, fun a ha => by simp at ha⟩
 | out w hw h =>
  have e : R G d .s (.w w) := .step .refl (.out w hw h)
  refine ⟨e, fun a ha => ?_⟩
  rw [List.mem_singleton.1 ha, nd_s, nd_w hw]
  exact ⟨.refl, e, e, .refl⟩
 | @up i hi l k ih =>
  have e : E G d (.w (G.wn i)) (.h (G.hn i)) := .up i hi
  refine ⟨.step ih.1 e, fun a ha => ?_⟩
  rcases List.mem_cons.1 ha with q | ha
  ·rw [q, nd_w (hg.wn i hi), nd_h (hg.hn i hi)]
   exact ⟨ih.1, .step ih.1 e, .step .refl e, .refl⟩
  ·obtain ⟨a1, a2, a3, a4⟩ := ih.2 a ha
   exact ⟨a1, a2, .step a3 e, .step a4 e⟩
 | @dn i hi h l k ih =>
  have e : E G d (.h (G.hn i)) (.w (G.wn i)) := .dn i hi h
  refine ⟨.step ih.1 e, fun a ha => ?_⟩
  rcases List.mem_cons.1 ha with q | ha
  ·rw [q, nd_w (hg.wn i hi), nd_h (hg.hn i hi)]
   exact ⟨ih.1, .step ih.1 e, .step .refl e, .refl⟩
  ·obtain ⟨a1, a2, a3, a4⟩ := ih.2 a ha
   exact ⟨a1, a2, .step a3 e, .step a4 e⟩
theorem cn_arc {x : Nd} {l : List Ar} (hc : Cn G d x l) : ∀ a ∈ l, (∃ w, w < G.W ∧ 0 < hz G d w ∧ a = ⟨sp G, w, 0, -1, 0⟩) ∨ (∃ i, i < G.N ∧ a = ⟨G.wn i, G.W + G.hn i, 0, i, 1⟩) ∨ (∃ i, i < G.N ∧ 0 < d i ∧ a = ⟨G.W + G.hn i, G.wn i, 0, i, -1⟩) := by
 induction hc with
 | nil => intro a ha; simp at ha
 | out w hw h => intro a ha; exact .inl ⟨w, hw, h, List.mem_singleton.1 ha⟩
 | @up i hi l k ih =>
  intro a ha
  rcases List.mem_cons.1 ha with q | ha
  ·exact .inr (.inl ⟨i, hi, q⟩)
  ·exact ih a ha
 | @dn i hi h l k ih =>
  intro a ha
  rcases List.mem_cons.1 ha with q | ha
  ·exact .inr (.inr ⟨i, hi, h, q⟩)
  ·exact ih a ha
theorem dl_nonneg {l : List Ar} {i : Nat} (h : ∀ a ∈ l, a.y = i → 0 ≤ a.m) : 0 ≤ dl l i := by
 induction l with
 | nil => exact Int.le_refl _
 | cons a l ih =>
  have := ih fun a ha => h a (by simp [ha])
  show 0 ≤ (if a.y = i then a.m else 0) + dl l i
  split
  ·rename_i e; have := h a (by simp) e; omega
  ·omega
theorem dl_nonpos {l : List Ar} {i : Nat} (h : ∀ a ∈ l, a.y = i → a.m ≤ 0) : dl l i ≤ 0 := by
 induction l with
 | nil => exact Int.le_refl _
 | cons a l ih =>
  have := ih fun a ha => h a (by simp [ha])
  show (if a.y = i then a.m else 0) + dl l i ≤ 0
  split
  ·rename_i e; have := h a (by simp) e; omega
  ·omega
theorem dl_ge {l : List Ar} {i t : Nat} (h : ∀ a ∈ l, a.y = i → 0 ≤ a.m ∨ (a.m = -1 ∧ a.t = t)) (hp : l.Pairwise (fun a b => a.t ≠ b.t)) : 0 ≤ dl l i ∨ (-1 ≤ dl l i ∧ ∃ a ∈ l, a.y = i ∧ a.m = -1) := by
 induction l with
 | nil => exact .inl (Int.le_refl _)
 | cons a l ih =>
  have ih := ih (fun a ha => h a (by simp [ha])) (List.pairwise_cons.1 hp).2
  have hq := (List.pairwise_cons.1 hp).1
  show 0 ≤ (if a.y = i then a.m else 0) + dl l i ∨ (-1 ≤ (if a.y = i then a.m else 0) + dl l i ∧ _)
  by_cases e : a.y = i
  ·rw [if_pos e]
   rcases h a (by simp) e with h0 | ⟨h0, h1⟩
   ·rcases ih with ih | ⟨ih, b, hb, h2⟩
    ·exact .inl (by omega)
    ·by_cases h3 : 0 ≤ a.m + dl l i
     ·exact .inl h3
     ·exact .inr ⟨by omega, b, by simp [hb], h2⟩
   ·have : 0 ≤ dl l i := dl_nonneg fun b hb eb => by
     rcases h b (by simp [hb]) eb with h4 | ⟨h4, h5⟩
     ·exact h4
     ·exact absurd (h1.trans h5.symm) (hq b hb)
    exact .inr ⟨by omega, a, by simp, e, h0⟩
  ·rw [if_neg e]
   rcases ih with ih | ⟨ih, b, hb, h2⟩
   ·exact .inl (by omega)
   ·exact .inr ⟨by omega, b, by simp [hb], h2⟩
theorem cn_step (hg : GV G) (hd : Dv G d) (hi : Inv G d) {e : Nat} (he : e < G.H) {l : List Ar} (hc : Cn G d (.h e) l) (hp : l.Pairwise (fun a b => a.t ≠ b.t)) (hl : 0 < lk G d e)
  (hm : ∀ h, h < G.H → R G d .s (.h h) → lk G d h ≤ lk G d e) :
  Dv G (fun i => d i + dl l i) ∧ Inv G (fun i => d i + dl l i) ∧ ∀ h, h < G.H → lk G (fun i => d i + dl l i) h = if h = e then lk G d h - 1 else lk G d h := by
 rcases cn_sum hg hc with ⟨q, _⟩ | ⟨w0, h0, h1, h2, h3, h4⟩
 ·cases q
 obtain ⟨hre, hR⟩ := cn_R hg hc
 have hlk : ∀ h, h < G.H → lk G (fun i => d i + dl l i) h = if h = e then lk G d h - 1 else lk G d h := by
  intro h hh
  have := h3 h hh
  unfold lk drw
  rw [S_congr (g := fun i => (if G.hn i = h then d i else 0) + (if G.hn i = h then dl l i else 0)) fun i _ => by split <;> rfl, S_add, this]
  unfold iff1
  by_cases q : h = e
  ·subst q; rw [if_pos rfl, if_pos rfl]; omega
  ·rw [if_neg q, if_neg (by simp; omega)]; omega
 have hhz : ∀ w, w < G.W → hz G (fun i => d i + dl l i) w = if w = w0 then hz G d w - 1 else hz G d w := by
  intro w hw
  have := h4 w hw
  unfold hz giv
  rw [S_congr (g := fun i => (if G.wn i = w then d i else 0) + (if G.wn i = w then dl l i else 0)) fun i _ => by split <;> rfl, S_add, this]
  unfold iff1
  by_cases q : w = w0
  ·subst q; rw [if_pos rfl, if_pos rfl]; simp; omega
  ·rw [if_neg q, if_neg q]; simp
 have hca := cn_arc hc
 have hdv : Dv G (fun i => d i + dl l i) := by
  refine ⟨fun i hi => ?_, fun h hh => ?_, fun w hw => ?_⟩
  ·show 0 ≤ d i + dl l i
   have h0 := hd.nn i hi
   have := dl_ge (l := l) (i := i) (t := G.wn i) (fun a ha ea => by
    rcases hca a ha with ⟨w, _, _, q⟩ | ⟨j, _, q⟩ | ⟨j, _, _, q⟩
    ·rw [q] at ea; dsimp only at ea; omega
    ·rw [q]; exact .inl (show (0 : Int) ≤ 1 by decide)
    ·rw [q] at ea ⊢
     have : j = i := by dsimp only at ea; omega
     subst this
     exact .inr ⟨rfl, rfl⟩) hp
   rcases this with q | ⟨q, a, ha, e1, e2⟩
   ·omega
   ·rcases hca a ha with ⟨w, _, _, q⟩ | ⟨j, _, q⟩ | ⟨j, _, hj, q⟩
    ·rw [q] at e1; dsimp only at e1; omega
    ·rw [q] at e2; dsimp only at e2; omega
    ·rw [q] at e1
     have : j = i := by dsimp only at e1; omega
     subst this
     omega
  ·rw [hlk h hh]
   have := hd.lk h hh
   split
   ·rename_i q; rw [q]; omega
   ·exact this
  ·rw [hhz w hw]
   have := hd.hz w hw
   split
   ·rename_i q; rw [q]; omega
   ·exact this
 refine ⟨hdv, ?_, hlk⟩
 refine inv_step hi he (fun x => ∃ a ∈ l, x = nd G a.f ∨ x = nd G a.t) ?_ ?_ hre hlk hm
 ·rintro x ⟨a, ha, q | q⟩
  ·rw [q]; exact ⟨(hR a ha).1, (hR a ha).2.2.1⟩
  ·rw [q]; exact ⟨(hR a ha).2.1, (hR a ha).2.2.2⟩
 ·intro x y h
  cases h with
  | up i hi => exact .inl (.up i hi)
  | dn i hi h =>
   by_cases hdi : 0 < d i
   ·exact .inl (.dn i hi hdi)
   ·refine .inr ?_
    have h : 0 < d i + dl l i := h
    have : ¬ dl l i ≤ 0 := by omega
    obtain ⟨a, ha, h5⟩ : ∃ a ∈ l, a.y = i ∧ ¬ a.m ≤ 0 := Classical.byContradiction fun q => this (dl_nonpos fun a ha ea => Classical.byContradiction fun h => q ⟨a, ha, ea, h⟩)
    rcases hca a ha with ⟨w, _, _, q⟩ | ⟨j, hj, q⟩ | ⟨j, _, _, q⟩
    ·rw [q] at h5; dsimp only at h5; omega
    ·rw [q] at h5
     have : j = i := by dsimp only at h5; omega
     subst this
     refine ⟨⟨a, ha, .inr ?_⟩, ⟨a, ha, .inl ?_⟩⟩
     ·rw [q, nd_h (hg.hn j hj)]
     ·rw [q, nd_w (hg.wn j hj)]
    ·rw [q] at h5; dsimp only at h5; omega
  | out w hw h =>
   refine .inl (.out w hw ?_)
   rw [hhz w hw] at h
   split at h <;> omega
  | back w hw h =>
   rw [hhz w hw] at h
   by_cases q : w = w0
   ·refine .inr ⟨⟨_, h2, .inr ?_⟩, ⟨_, h2, .inl ?_⟩⟩
    ·rw [q, nd_w h0]
    ·rw [nd_s]
   ·rw [if_neg q] at h
    exact .inl (.back w hw h)
def fin (G : Gr) (d : Nat → Int) : St := rnds (arcs G d) (st0 (nn G) (sp G)) (nn G)
theorem cheapest (hg : GV G) (hd : Dv G d) (hi : Inv G d) :
  (cA (fin G d).1 (sk G) < far → ∃ l, Ch (fin G d).2 (sp G) (sk G) l ∧ l.length ≤ nn G + 1 ∧ (∀ a ∈ l, Arc G d a)) ∧
  (0 ≤ cA (fin G d).1 (sk G) → Fin G d) ∧
  (cA (fin G d).1 (sk G) < 0 → ∀ l, Ch (fin G d).2 (sp G) (sk G) l → Dv G (fun i => d i + dl l i) ∧ Inv G (fun i => d i + dl l i) ∧ ∃ e, e < G.H ∧ 0 < lk G d e ∧ ∀ h, h < G.H → lk G (fun i => d i + dl l i) h = if h = e then lk G d h - 1 else lk G d h) := by
 obtain ⟨g, hgp⟩ := pot G d
 have hA := aok hg hd hi hgp
 have hsp : sp G < nn G := by unfold sp nn; omega
 have hsk : sk G < nn G := by unfold sk nn; omega
 obtain ⟨τ, T, hJ⟩ := J_rnds hA hsp (nn G)
 have hJ : J (arcs G d) (pi G g) (nn G) (sp G) (fin G d) τ T := hJ
 have hst : cA (st0 (nn G) (sp G)).1 (sp G) = 0 := (J_st0 (A := []) (π := fun _ => 0) hsp).s0
 have hln : (st0 (nn G) (sp G)).1.length = nn G := by simp [st0]
 obtain ⟨k, hk, hstill⟩ := still (A := arcs G d) (s := st0 (nn G) (sp G)) (n := nn G) hsp (by omega)
 have hlk : ∀ b ∈ arcs G d, b.t < (rnds (arcs G d) (st0 (nn G) (sp G)) k).1.length := fun b hb => by
  rw [(rnds_len k).1, hln]
  exact hA.t b hb
 have hfar : (0 : Int) < far := by decide
 have hR0 : ∀ x, R G d .s x → cA (rnds (arcs G d) (st0 (nn G) (sp G)) k).1 (ix G x) ≤ 0 := by
  intro x h
  induction h with
  | refl =>
   have := rnds_le (A := arcs G d) (s := st0 (nn G) (sp G)) (Nat.zero_le k) (sp G)
   show cA _ (sp G) ≤ 0
   have e : cA (rnds (arcs G d) (st0 (nn G) (sp G)) 0).1 (sp G) = 0 := hst
   omega
  | step _ q ih =>
   obtain ⟨a, ha, e1, e2, e3⟩ := e_arc q
   have := fold_hit (arcs G d) (rnds (arcs G d) (st0 (nn G) (sp G)) k) a ha hlk (by rw [e1]; omega)
   rw [e1, e2, e3] at this
   refine hstill _ ?_ (Int.le_trans this (by omega))
   rw [← e2]
   exact hA.t a ha
 have hsink : ∀ h, h < G.H → R G d .s (.h h) → 0 < lk G d h → cA (fin G d).1 (sk G) ≤ - Dl (lk G d h) := by
  intro h hh hr hl
  have h1 := hR0 _ hr
  have ha : Arc G d _ := .sink h hh hl
  have := fold_hit (arcs G d) (rnds (arcs G d) (st0 (nn G) (sp G)) k) _ (mem_arcs.2 ha) hlk (by
   show cA _ (ix G (.h h)) < far
   omega)
  dsimp only at this
  have h2 := rnds_le (A := arcs G d) (s := st0 (nn G) (sp G)) (show k + 1 ≤ nn G by omega) (sk G)
  rw [dear_dn hl] at this
  have h3 : cA (rnds (arcs G d) (st0 (nn G) (sp G)) k).1 (G.W + h) ≤ 0 := h1
  have h4 : cA (rnds (arcs G d) (st0 (nn G) (sp G)) (k + 1)).1 (sk G) ≤ cA (rnds (arcs G d) (st0 (nn G) (sp G)) k).1 (G.W + h) + - Dl (lk G d h) := this
  have h5 : cA (fin G d).1 (sk G) ≤ cA (rnds (arcs G d) (st0 (nn G) (sp G)) (k + 1)).1 (sk G) := h2
  omega
 refine ⟨fun hf => ?_, fun h0 h hh hr => ?_, fun h0 l hl => ?_⟩
 ·obtain ⟨l, hl, hn⟩ := chain' hA hJ hsk hf
  exact ⟨l, hl, hn, fun a ha => mem_arcs.1 ((ch_lx hA hJ hl hsk hf).1 a ha).1⟩
 ·rcases Int.lt_or_le 0 (lk G d h) with q | q
  ·have h1 := hsink h hh hr q
   have h2 := Dl_lt q q
   unfold Dl at h2
   rw [if_neg (c := (0 : Int) < 0 ) (by decide)] at h2
   have h3 : (0 : Int) < Dl (lk G d h) := by
    have := Dl_lt (show (0 : Int) < lk G d h from q) q
    have e : Dl 0 = 0 := rfl
    omega
   omega
  ·exact q
 ·have hf : cA (fin G d).1 (sk G) < far := by omega
  obtain ⟨hx, hp⟩ := ch_lx hA hJ hl hsk hf
  have hne : sk G ≠ sp G := by unfold sk sp; omega
  generalize hy : sk G = y at hl
  cases hl with
  | nil => exact absurd hy hne
  | cons hne' k =>
   subst hy
   obtain ⟨c1, c2, c3, c4⟩ := hx _ (List.mem_cons_self)
   obtain ⟨b1, b2, b3, b4, b5⟩ := hJ.bb _ hsk hne hf
   have hp' := (List.pairwise_cons.1 hp)
   rename_i l
   have hxl : ∀ a ∈ l, a ∈ arcs G d ∧ (a.t = sk G ∨ Lx (pi G g) (fin G d) τ a.t (sk G)) ∧ Lx (pi G g) (fin G d) τ a.f (sk G) ∧ cA (fin G d).1 a.f + a.c ≤ cA (fin G d).1 a.t := fun a ha => hx a (by simp [ha])
   have hlast : ∀ a ∈ l, a.f ≠ sk G ∧ a.t ≠ sk G := fun a ha => by
    refine ⟨fun q => ?_, fun q => ?_⟩
    ·have := (hxl a ha).2.2.1
     rw [q] at this
     exact this.irr
    ·exact hp'.1 a ha (by rw [b2, q])
   have hbA := mem_arcs.1 b1
   have hcn : (bA (fin G d).2 (sk G)).f ≠ sk G → Cn G d (nd G (bA (fin G d).2 (sk G)).f) l := fun q => cn_of hg hJ k (arc_lt hg hbA).1 q b3 fun a ha => (hlast a ha).1
   have hc4 := c4
   rw [b2] at hc4
   have hch : ∀ {x : Nat} {l : List Ar}, Ch (fin G d).2 (sp G) x l → (∀ a ∈ l, a ∈ arcs G d ∧ a.f ≠ sk G ∧ a.t ≠ sk G) → x < nn G → cA (fin G d).1 x < far → 0 ≤ cA (fin G d).1 x := by
    intro x l hc
    induction hc with
    | nil => intro _ _ _; rw [hJ.s0]; exact Int.le_refl _
    | @cons x l e k ih =>
     intro ha hx hf
     obtain ⟨b1, b2, b3, b4, b5⟩ := hJ.bb x hx e hf
     obtain ⟨a1, a2, a3⟩ := ha _ (List.mem_cons_self)
     have := ih (fun a h => ha a (by simp [h])) (arc_lt hg (mem_arcs.1 b1)).1 b3
     have := (arc_e hg (mem_arcs.1 a1) a2 a3).1
     omega
   have hge := hch k (fun a ha => ⟨(hxl a ha).1, hlast a ha⟩) (arc_lt hg hbA).1 b3
   generalize bA (fin G d).2 (sk G) = b at *
   have hz0 : ∀ i, dl (b :: l) i = (if b.y = i then b.m else 0) + dl l i := fun _ => rfl
   cases hbA with
   | out w hw h => simp only [sk] at b2; omega
   | back w hw h => simp only [sp, sk] at b2; omega
   | rise w hw h => simp only [sk] at b2; omega
   | up i hi => have := hg.hn i hi; simp only [sk] at b2; omega
   | dn i hi h => have := hg.wn i hi; simp only [sk] at b2; omega
   | sink e he hle =>
    have hcn := hcn (by simp only [sk]; omega)
    rw [nd_h he] at hcn
    have hz1 : (fun i => d i + dl (⟨G.W + e, sk G, dear (lk G d e - 1) - dear (lk G d e), -1, 0⟩ :: l) i) = (fun i : Nat => d i + dl l i) := by
     funext i
     rw [hz0]
     dsimp only
     rw [if_neg (by omega)]
     omega
    rw [hz1]
    have hm : ∀ h, h < G.H → R G d .s (.h h) → lk G d h ≤ lk G d e := by
     intro h hh hr
     rcases Int.lt_or_le (lk G d e) (lk G d h) with q | q
     ·have h1 := hsink h hh hr (by omega)
      have h2 := Dl_lt q (by omega)
      dsimp only at hc4 hge
      rw [dear_dn hle] at hc4
      omega
     ·exact q
    obtain ⟨r1, r2, r3⟩ := cn_step hg hd hi he hcn hp'.2 hle hm
    exact ⟨r1, r2, e, he, hle, r3⟩
end Go.Proofs.YtpangdaijhiohaaGreatDoor.Bu

set_option linter.unusedSimpArgs false
set_option linter.unusedVariables false
set_option linter.unnecessarySimpa false
namespace Go.Proofs.YtpangdaijhiohaaGreatDoor.Bu
def more (G : Gr) (q : Nat) : Gr := { G with ws := fun w => if w = q then G.ws w + 1 else G.ws w }
end Go.Proofs.YtpangdaijhiohaaGreatDoor.Bu

set_option linter.unusedSimpArgs false
set_option linter.unusedVariables false
set_option linter.unnecessarySimpa false
namespace Go.Proofs.YtpangdaijhiohaaGreatDoor.Bu
structure Wy where
 h : Int
 w : Int
 deriving Inhabited, DecidableEq
structure Tn where
 hs : List Int
 ws : List Int
 wy : List Wy
abbrev wyA (t : Tn) (i : Nat) : Wy := t.wy[i]?.getD default
structure Vb (t : Tn) : Prop where
 n1 : t.hs.length ≤ 6
 n2 : t.ws.length ≤ 5
 n3 : t.wy.length ≤ 12
 hs : ∀ h, h < t.hs.length → 0 ≤ cA t.hs h ∧ cA t.hs h ≤ 9
 ws : ∀ w, w < t.ws.length → 0 ≤ cA t.ws w ∧ cA t.ws w ≤ 20
 wy : ∀ i, i < t.wy.length → (0 ≤ (wyA t i).h ∧ (wyA t i).h < t.hs.length) ∧ (0 ≤ (wyA t i).w ∧ (wyA t i).w < t.ws.length)
structure Vw (t : Tn) : Prop where
 n1 : t.hs.length ≤ 6
 n2 : t.ws.length ≤ 5
 n3 : t.wy.length ≤ 12
 hs : ∀ h, h < t.hs.length → 0 ≤ cA t.hs h ∧ cA t.hs h ≤ 9
 ws : ∀ w, w < t.ws.length → 0 ≤ cA t.ws w ∧ cA t.ws w ≤ 1000
 wy : ∀ i, i < t.wy.length → (0 ≤ (wyA t i).h ∧ (wyA t i).h < t.hs.length) ∧ (0 ≤ (wyA t i).w ∧ (wyA t i).w < t.ws.length)
theorem Vb.vw {t : Tn} (h : Vb t) : Vw t := ⟨h.n1, h.n2, h.n3, h.hs, fun w hw => by have := h.ws w hw; omega, h.wy⟩
def gr (t : Tn) : Gr := ⟨t.hs.length, t.ws.length, t.wy.length, cA t.hs, cA t.ws, fun i => (wyA t i).h.toNat, fun i => (wyA t i).w.toNat⟩
theorem gr_v {t : Tn} (h : Vw t) : GV (gr t) := ⟨fun i hi => by have := h.wy i hi; simp only [gr]; omega, fun i hi => by have := h.wy i hi; simp only [gr]; omega, fun x hx => (h.hs x hx).1, fun x hx => (h.ws x hx).1⟩
def lkL (t : Tn) (d : List Int) : Nat → List Int
 | 0 => t.hs
 | k + 1 => (lkL t d k).set (wyA t k).h.toNat (cA (lkL t d k) (wyA t k).h.toNat - cA d k)
def hzL (t : Tn) (d : List Int) : Nat → List Int
 | 0 => t.ws
 | k + 1 => (hzL t d k).set (wyA t k).w.toNat (cA (hzL t d k) (wyA t k).w.toNat - cA d k)
theorem lkL_len (t : Tn) (d : List Int) (k : Nat) : (lkL t d k).length = t.hs.length := by
 induction k with
 | zero => rfl
 | succ k ih => simp [lkL, ih]
theorem hzL_len (t : Tn) (d : List Int) (k : Nat) : (hzL t d k).length = t.ws.length := by
 induction k with
 | zero => rfl
 | succ k ih => simp [hzL, ih]
theorem lkL_at {t : Tn} (hv : Vw t) (d : List Int) (h : Nat) : ∀ k, k ≤ t.wy.length → cA (lkL t d k) h = cA t.hs h - S k (fun i => if (wyA t i).h.toNat = h then cA d i else 0) := by
 intro k
 induction k with
 | zero => intro _; simp [lkL, S]
 | succ k ih =>
  intro hk
  have hw := hv.wy k (by omega)
  have hl := lkL_len t d k
  show cA ((lkL t d k).set _ _) h = _
  rw [cA_set (by omega)]
  simp only [S]
  have i1 := ih (by omega)
  by_cases e : (wyA t k).h.toNat = h
  ·rw [if_pos e, if_pos e, e, i1]; omega
  ·rw [if_neg e, if_neg e, i1]; omega
theorem hzL_at {t : Tn} (hv : Vw t) (d : List Int) (w : Nat) : ∀ k, k ≤ t.wy.length → cA (hzL t d k) w = cA t.ws w - S k (fun i => if (wyA t i).w.toNat = w then cA d i else 0) := by
 intro k
 induction k with
 | zero => intro _; simp [hzL, S]
 | succ k ih =>
  intro hk
  have hw := hv.wy k (by omega)
  have hl := hzL_len t d k
  show cA ((hzL t d k).set _ _) w = _
  rw [cA_set (by omega)]
  simp only [S]
  have i1 := ih (by omega)
  by_cases e : (wyA t k).w.toNat = w
  ·rw [if_pos e, if_pos e, e, i1]; omega
  ·rw [if_neg e, if_neg e, i1]; omega
abbrev lacL (t : Tn) (d : List Int) : List Int := lkL t d t.wy.length
abbrev hasL (t : Tn) (d : List Int) : List Int := hzL t d t.wy.length
theorem lac_at {t : Tn} (hv : Vw t) (d : List Int) (h : Nat) : cA (lacL t d) h = lk (gr t) (cA d) h := lkL_at hv d h _ (Nat.le_refl _)
theorem has_at {t : Tn} (hv : Vw t) (d : List Int) (w : Nat) : cA (hasL t d) w = hz (gr t) (cA d) w := hzL_at hv d w _ (Nat.le_refl _)
def apL : List Int → List Ar → List Int
 | d, [] => d
 | d, a :: l => apL (if 0 ≤ a.y then d.set a.y.toNat (cA d a.y.toNat + a.m) else d) l
theorem apL_len (l : List Ar) : ∀ d, (apL d l).length = d.length := by
 induction l with
 | nil => intro d; rfl
 | cons a l ih => intro d; simp only [apL]; rw [ih]; split <;> simp
theorem apL_at (l : List Ar) : ∀ (d : List Int), (∀ a ∈ l, a.y < d.length) → (∀ a ∈ l, 0 ≤ a.y ∨ a.y = -1) → ∀ i, cA (apL d l) i = cA d i + dl l i := by
 induction l with
 | nil => intro d _ _ i; simp [apL, dl]
 | cons a l ih =>
  intro d h1 h2 i
  simp only [apL, dl]
  have ha := h1 a (by simp)
  rcases h2 a (by simp) with hy | hy
  ·rw [if_pos hy, ih _ (fun b hb => by simpa using h1 b (by simp [hb])) (fun b hb => h2 b (by simp [hb])), cA_set (by omega)]
   by_cases e : a.y.toNat = i
   ·rw [if_pos e, if_pos (by omega), e]; omega
   ·rw [if_neg e, if_neg (by omega)]; omega
  ·rw [if_neg (by omega), ih _ (fun b hb => h1 b (by simp [hb])) (fun b hb => h2 b (by simp [hb])), if_neg (by omega)]; omega
def chn (b : List Ar) (src : Nat) : Nat → Nat → List Ar
 | 0, _ => []
 | f + 1, x => if x = src then [] else bA b x :: chn b src f (bA b x).f
theorem chn_of {b : List Ar} {src x : Nat} {l : List Ar} (h : Ch b src x l) : ∀ f, l.length + 1 ≤ f → chn b src f x = l := by
 induction h with
 | nil =>
  intro f hf
  cases f with
  | zero => omega
  | succ f => simp [chn]
 | @cons x l e k ih =>
  intro f hf
  cases f with
  | zero => simp at hf
  | succ f =>
   simp only [chn, if_neg e]
   rw [ih f (by simpa using hf)]
abbrev finL (t : Tn) (d : List Int) : St := fin (gr t) (cA d)
def cost (t : Tn) (d : List Int) : Int := cA (finL t d).1 (sk (gr t))
def path (t : Tn) (d : List Int) : List Ar := if cost t d < far then chn (finL t d).2 (sp (gr t)) 20 (sk (gr t)) else []
def fairF (t : Tn) : Nat → List Int → List Int
 | 0, d => d
 | f + 1, d => if 0 ≤ cost t d then d else fairF t f (apL d (path t d))
def fairL (t : Tn) : List Int := fairF t 60 (List.replicate t.wy.length 0)
structure Ok (t : Tn) (d : List Int) : Prop where
 len : d.length = t.wy.length
 dv : Dv (gr t) (cA d)
 inv : Inv (gr t) (cA d)
theorem ok_0 {t : Tn} (hv : Vw t) : Ok t (List.replicate t.wy.length 0) := by
 have h0 : ∀ i, cA (List.replicate t.wy.length (0 : Int)) i = 0 := fun i => by
  unfold cA
  rw [List.getElem?_replicate]
  split <;> rfl
 refine ⟨by simp, ⟨fun i _ => by rw [h0]; exact Int.le_refl _, fun h hh => ?_, fun w hw => ?_⟩, fun h k hh hk r => ?_⟩
 ·unfold lk drw
  rw [S_congr (g := fun _ => 0) fun i _ => by rw [h0]; split <;> rfl, S_zero]
  have := (hv.hs h hh).1
  simp only [gr]
  omega
 ·unfold hz giv
  rw [S_congr (g := fun _ => 0) fun i _ => by rw [h0]; split <;> rfl, S_zero]
  have := (hv.ws w hw).1
  simp only [gr]
  omega
 ·have : ∀ y, R (gr t) (cA (List.replicate t.wy.length (0 : Int))) (.h h) y → y = .h h := by
   intro y r
   induction r with
   | refl => rfl
   | step _ e ih =>
    subst ih
    cases e with
    | dn i hi hd => rw [h0] at hd; omega
  have := this _ r
  injection this with this
  subst this
  omega
theorem nn_le {t : Tn} (hv : Vw t) : nn (gr t) ≤ 13 := by
 have := hv.n1
 have := hv.n2
 simp only [nn, gr]
 omega
theorem path_ch {t : Tn} {d : List Int} (hv : Vw t) (h : Ok t d) (hc : cost t d < far) : Ch (finL t d).2 (sp (gr t)) (sk (gr t)) (path t d) ∧ (path t d).length ≤ 14 ∧ ∀ a ∈ path t d, Arc (gr t) (cA d) a := by
 obtain ⟨l, h1, h2, h3⟩ := (cheapest (gr_v hv) h.dv h.inv).1 hc
 have hn := nn_le hv
 have : path t d = l := by unfold path; rw [if_pos hc]; exact chn_of h1 20 (by omega)
 rw [this]
 exact ⟨h1, by omega, h3⟩
theorem arc_y {t : Tn} {d : List Int} (h : d.length = t.wy.length) {a : Ar} (ha : Arc (gr t) (cA d) a) : a.y < d.length ∧ (0 ≤ a.y ∨ a.y = -1) ∧ -1 ≤ a.m ∧ a.m ≤ 1 := by
 have e : (gr t).N = t.wy.length := rfl
 cases ha <;> dsimp only <;> omega
theorem ok_step {t : Tn} {d : List Int} (hv : Vw t) (h : Ok t d) (hc : cost t d < 0) : Ok t (apL d (path t d)) ∧ ∃ e, e < t.hs.length ∧ 0 < lk (gr t) (cA d) e ∧ ∀ x, x < t.hs.length → lk (gr t) (cA (apL d (path t d))) x = if x = e then lk (gr t) (cA d) x - 1 else lk (gr t) (cA d) x := by
 obtain ⟨h1, h2, h3⟩ := path_ch hv h (by unfold far; omega)
 obtain ⟨r1, r2, e, r3, r4, r5⟩ := (cheapest (gr_v hv) h.dv h.inv).2.2 hc _ h1
 have hat : (fun i => cA d i + dl (path t d) i) = cA (apL d (path t d)) := by
  funext i
  exact (apL_at _ d (fun a ha => (arc_y h.len (h3 a ha)).1) (fun a ha => (arc_y h.len (h3 a ha)).2.1) i).symm
 rw [hat] at r1 r2 r5
 exact ⟨⟨by rw [apL_len]; exact h.len, r1, r2⟩, e, r3, r4, r5⟩
def lackN (t : Tn) (d : List Int) : Nat := (S t.hs.length (fun x => lk (gr t) (cA d) x)).toNat
theorem lackN_lt {t : Tn} {d : List Int} (hv : Vw t) (h : Ok t d) (hc : cost t d < 0) : lackN t (apL d (path t d)) + 1 ≤ lackN t d := by
 obtain ⟨h1, e, he, h2, h3⟩ := ok_step hv h hc
 have q1 : S t.hs.length (fun x => lk (gr t) (cA (apL d (path t d))) x) = S t.hs.length (fun x => lk (gr t) (cA d) x - (if x = e then 1 else 0)) := S_congr fun x hx => by
  rw [h3 x hx]
  split <;> omega
 have q2 : 0 ≤ S t.hs.length (fun x => lk (gr t) (cA (apL d (path t d))) x) := S_nonneg fun x hx => h1.dv.lk x hx
 rw [S_sub, S_one (show e < t.hs.length from he)] at q1
 show (S t.hs.length (fun x => lk (gr t) (cA (apL d (path t d))) x)).toNat + 1 ≤ (S t.hs.length (fun x => lk (gr t) (cA d) x)).toNat
 generalize S t.hs.length (fun x => lk (gr t) (cA (apL d (path t d))) x) = A at *
 generalize S t.hs.length (fun x => lk (gr t) (cA d) x) = B at *
 omega
theorem lackN_54 {t : Tn} (hv : Vw t) : lackN t (List.replicate t.wy.length 0) ≤ 54 := by
 have h := ok_0 hv
 have : S t.hs.length (fun x => lk (gr t) (cA (List.replicate t.wy.length (0 : Int))) x) ≤ S t.hs.length (fun _ => 9) := S_le fun x hx => by
  have h0 := S_nonneg (n := t.wy.length) (f := fun i => if (gr t).hn i = x then cA (List.replicate t.wy.length (0 : Int)) i else 0) fun i hi => by
   have := h.dv.nn i hi
   split
   ·exact this
   ·exact Int.le_refl _
  have := hv.hs x hx
  have e : lk (gr t) (cA (List.replicate t.wy.length (0 : Int))) x = cA t.hs x - S t.wy.length (fun i => if (gr t).hn i = x then cA (List.replicate t.wy.length (0 : Int)) i else 0) := rfl
  rw [e]
  omega
 have hc : ∀ n : Nat, S n (fun _ => (9 : Int)) = 9 * n := by
  intro n
  induction n with
  | zero => rfl
  | succ n ih => simp only [S]; rw [ih]; omega
 rw [hc] at this
 have := hv.n1
 unfold lackN
 omega
theorem fairF_step {t : Tn} {d : List Int} (hv : Vw t) (h : Ok t d) (f : Nat) (hf : lackN t d + 1 ≤ f) (hc : cost t d < 0) : fairF t f d = fairF t f (apL d (path t d)) ∧ True := by
 refine ⟨?_, trivial⟩
 have mono : ∀ (f : Nat) (d : List Int), Ok t d → lackN t d + 1 ≤ f → fairF t (f + 1) d = fairF t f d := by
  intro f
  induction f with
  | zero => intro d _ h; omega
  | succ f ih =>
   intro d h hf
   rw [fairF]
   conv => rhs; rw [fairF]
   by_cases q : 0 ≤ cost t d
   ·rw [if_pos q, if_pos q]
   ·rw [if_neg q, if_neg q]
    have := lackN_lt hv h (by omega)
    exact ih _ (ok_step hv h (by omega)).1 (by omega)
 have hl := lackN_lt hv h hc
 cases f with
 | zero => omega
 | succ f =>
  conv => lhs; rw [fairF]
  rw [if_neg (by omega)]
  exact (mono f _ (ok_step hv h hc).1 (by omega)).symm
theorem fair_ok {t : Tn} (hv : Vw t) : ∀ (f : Nat) (d : List Int), Ok t d → lackN t d + 1 ≤ f → Ok t (fairF t f d) ∧ Fin (gr t) (cA (fairF t f d)) := by
 intro f
 induction f with
 | zero => intro d _ h; omega
 | succ f ih =>
  intro d h hf
  rw [fairF]
  by_cases q : 0 ≤ cost t d
  ·rw [if_pos q]
   exact ⟨h, (cheapest (gr_v hv) h.dv h.inv).2.1 q⟩
  ·rw [if_neg q]
   have := lackN_lt hv h (by omega)
   exact ih _ (ok_step hv h (by omega)).1 (by omega)
theorem fairL_ok {t : Tn} (hv : Vw t) : Ok t (fairL t) ∧ Fin (gr t) (cA (fairL t)) := fair_ok hv 60 _ (ok_0 hv) (by have := lackN_54 hv; omega)
end Go.Proofs.YtpangdaijhiohaaGreatDoor.Bu

set_option linter.unusedSimpArgs false
set_option linter.unusedVariables false
set_option linter.unnecessarySimpa false
namespace Go.Proofs.YtpangdaijhiohaaGreatDoor.Bd
open Go Go.V Mo Bu
abbrev WYv (y : Wy) : AV := .agg [.int y.h, .int y.w]
abbrev WS (l : List Wy) : AV := .sl 2 (l.map WYv) .sh
abbrev TB (t : Tn) : AV := .agg [IS t.hs, IS t.ws, WS t.wy]
theorem S_part {n k : Nat} {f : Nat → Int} (hk : k ≤ n) (h : ∀ i, i < n → 0 ≤ f i) : 0 ≤ S k f ∧ S k f ≤ S n f := by
 induction n with
 | zero => obtain rfl : k = 0 := by omega
           simp [S]
 | succ n ih =>
  refine ⟨S_nonneg fun i hi => h i (by omega), ?_⟩
  rcases Nat.lt_or_ge n k with h1 | h1
  ·obtain rfl : k = n + 1 := by omega
   exact Int.le_refl _
  ·have := (ih h1 fun i hi => h i (by omega)).2
   have := h n (by omega)
   simp only [S]
   omega
structure Dd (t : Tn) (d : List Int) : Prop where
 len : d.length = t.wy.length
 dv : Dv (gr t) (cA d)
theorem lkL_bd {t : Tn} {d : List Int} (hv : Vw t) (h : Dd t d) {k : Nat} (hk : k ≤ t.wy.length) {x : Nat} (hx : x < t.hs.length) : 0 ≤ cA (lkL t d k) x ∧ cA (lkL t d k) x ≤ 9 := by
 have h1 := lkL_at hv d x k hk
 have h2 := lkL_at hv d x _ (Nat.le_refl _)
 have h3 := h.dv.lk x hx
 rw [← lac_at hv d x, h2] at h3
 have h4 := S_part hk (f := fun i => if (wyA t i).h.toNat = x then cA d i else 0) fun i hi => by
  have := h.dv.nn i hi
  split
  ·exact this
  ·exact Int.le_refl _
 have h5 := hv.hs x hx
 generalize S k (fun i => if (wyA t i).h.toNat = x then cA d i else 0) = A at *
 generalize S t.wy.length (fun i => if (wyA t i).h.toNat = x then cA d i else 0) = B at *
 omega
theorem hzL_bd {t : Tn} {d : List Int} (hv : Vw t) (h : Dd t d) {k : Nat} (hk : k ≤ t.wy.length) {x : Nat} (hx : x < t.ws.length) : 0 ≤ cA (hzL t d k) x ∧ cA (hzL t d k) x ≤ 1000 := by
 have h1 := hzL_at hv d x k hk
 have h2 := hzL_at hv d x _ (Nat.le_refl _)
 have h3 := h.dv.hz x hx
 rw [← has_at hv d x, h2] at h3
 have h4 := S_part hk (f := fun i => if (wyA t i).w.toNat = x then cA d i else 0) fun i hi => by
  have := h.dv.nn i hi
  split
  ·exact this
  ·exact Int.le_refl _
 have h5 := hv.ws x hx
 generalize S k (fun i => if (wyA t i).w.toNat = x then cA d i else 0) = A at *
 generalize S t.wy.length (fun i => if (wyA t i).w.toNat = x then cA d i else 0) = B at *
 omega
abbrev b1L (t : Tn) : List (Nat × Nat × BX) := [(0, 0, ⟨t.hs.map .int, false⟩)]
abbrev b2L (t : Tn) : List (Nat × Nat × BX) := [(0, 0, ⟨t.ws.map .int, false⟩)]
theorem wy_get {l : List Wy} {i : Nat} (h : i < l.length) : (l.map WYv)[i]?.getD .und = WYv (l[i]?.getD default) := by simp [h]
theorem c126 (t : Tn) (hv : Vw t) (d : List Int) (hd : Dd t d) : Ctr Tryz.prog 126 [TB t, IS d] (.tup [IS (lacL t d), IS (hasL t d)]) := by
 refine ctr_of_wp hmix Tryz.func126 (m126 (b1L t) (b2L t)) rfl ?_
 unfold v126
 have n1 := hv.n1
 have n2 := hv.n2
 have n3 := hv.n3
 have hl := hd.len
 simp -failIfUnchanged (disch := first|omega|(simp<;>omega)|fail) only [go_sem,simprocAttr]
 refine wcalls (c149 1 t.hs (by omega)) ?_
 simp -failIfUnchanged (disch := first|omega|(simp<;>omega)|fail) only [go_sem,simprocAttr, gsB, List.map_cons, List.map_nil, List.cons_append, List.nil_append]
 refine ⟨by simp, wcalls (c149 2 t.ws (by omega)) ?_⟩
 simp -failIfUnchanged (disch := first|omega|(simp<;>omega)|fail) only [go_sem,simprocAttr, gsB, List.map_cons, List.map_nil, List.cons_append, List.nil_append]
 refine wp_loop' Nat (fun k => ⟨[(2, .ptr 2 0), (4, .gsl 1 0 0 1 t.hs.length false), (5, .gsl 2 0 0 1 t.ws.length false), (14, IS d), (15, .int d.length), (16, .int k)], [(2, ⟨[IS t.hs, IS t.ws, WS t.wy], false⟩), (K 1 0 0, ⟨(lkL t d k).map .int, false⟩), (K 2 0 0, ⟨(hzL t d k).map .int, false⟩)], [], none⟩) (fun k => k ≤ d.length) (fun k => d.length - k) 0 (by simp) (by simp -failIfUnchanged (disch := first|omega|(simp<;>omega)|fail) only [go_sem,simprocAttr]; simp [lkL, hzL]) ?_
 intro k hk
 have hk : k ≤ d.length := hk
 simp -failIfUnchanged (disch := first|omega|(simp<;>omega)|fail) only [go_sem,simprocAttr]
 refine wcond_dec (fun hc => ?_) (fun hc => ?_)
 ·have hlt : k < t.wy.length := by omega
  have hw := hv.wy k hlt
  have h1 := lkL_len t d k
  have h2 := hzL_len t d k
  obtain ⟨y, hy⟩ : ∃ y, t.wy[k]?.getD default = y := ⟨_, rfl⟩
  have hy' : wyA t k = y := hy
  rw [hy'] at hw
  obtain ⟨H, hH⟩ : ∃ n : Nat, y.h = n := ⟨y.h.toNat, by omega⟩
  obtain ⟨W, hW⟩ : ∃ n : Nat, y.w = n := ⟨y.w.toNat, by omega⟩
  rw [hH, hW] at hw
  have h3 := lkL_bd hv hd (show k + 1 ≤ t.wy.length by omega) (x := H) (by omega)
  have h4 := hzL_bd hv hd (show k + 1 ≤ t.wy.length by omega) (x := W) (by omega)
  have e1 : lkL t d (k + 1) = (lkL t d k).set H (cA (lkL t d k) H - cA d k) := by simp only [lkL, hy', hH, Int.toNat_natCast]
  have e2 : hzL t d (k + 1) = (hzL t d k).set W (cA (hzL t d k) W - cA d k) := by simp only [hzL, hy', hW, Int.toNat_natCast]
  rw [e1, cA_set (by omega), if_pos rfl] at h3
  rw [e2, cA_set (by omega), if_pos rfl] at h4
  unfold cA at h3 h4
  simp -failIfUnchanged (disch := first|omega|(simp<;>omega)|fail) only [go_sem,simprocAttr, wy_get, hy, hH, hW]
  refine ⟨k + 1, by dsimp only; omega, by dsimp only; omega, ?_⟩
  dsimp only
  rw [e1, e2]
  simp -failIfUnchanged (disch := first|omega|(simp<;>omega)|fail) only [go_sem,simprocAttr]
  try simp
 ·obtain rfl : k = d.length := by omega
  have h1 := lkL_len t d t.wy.length
  have h2 := hzL_len t d t.wy.length
  rw [hl]
  simp -failIfUnchanged (disch := first|omega|(simp<;>omega)|fail) only [go_sem,simprocAttr, chunks_ints, h1, h2, Nat.le_refl]
  try simp
end Go.Proofs.YtpangdaijhiohaaGreatDoor.Bd

set_option linter.unusedSimpArgs false
set_option linter.unusedVariables false
set_option linter.unnecessarySimpa false
namespace Go.Proofs.YtpangdaijhiohaaGreatDoor.Bd
open Go Go.V Mo Bu
theorem dear_bd (i : Nat) (hi : i ≤ 10) : 1000 ≤ dear (i : Int) ∧ dear (i : Int) ≤ 1000 * 282475249 := by
 unfold dear
 rw [Int.toNat_natCast]
 have h1 : (7 : Nat) ^ i ≤ 7 ^ 10 := Nat.pow_le_pow_right (by omega) (by omega)
 have h2 : 1 ≤ (7 : Nat) ^ i := Nat.one_le_pow _ _ (by omega)
 have h3 : ((7 : Int) ^ i) = ((7 ^ i : Nat) : Int) := by simp
 rw [h3]
 have h4 : (7 : Nat) ^ 10 = 282475249 := by decide
 generalize (7 : Nat) ^ i = q at *
 omega
theorem c178 (n : Nat) (h : n ≤ 10) : Ctr Tryz.prog 178 [.int n] (.int (dear n)) := by
 refine ctr_of_wp hmix Tryz.func178 m178 rfl ?_
 unfold v178
 simp -failIfUnchanged (disch := first|omega|(simp<;>omega)|fail) only [go_sem,simprocAttr]
 refine wp_loop' Nat (fun i => ⟨[(3, .int (dear i)), (4, .int n), (5, .int i)], [], [], none⟩) (fun i => i ≤ n) (fun i => n - i) 0 (by simp) (by simp -failIfUnchanged (disch := first|omega|(simp<;>omega)|fail) only [go_sem,simprocAttr]; simp [dear]) ?_
 intro i hi
 have hi : i ≤ n := hi
 have hd : 1000 ≤ dear (i : Int) ∧ dear (i : Int) ≤ 1000 * 282475249 := by
  unfold dear
  rw [Int.toNat_natCast]
  have h1 : (7 : Nat) ^ i ≤ 7 ^ 10 := Nat.pow_le_pow_right (by omega) (by omega)
  have h2 : 1 ≤ (7 : Nat) ^ i := Nat.one_le_pow _ _ (by omega)
  have h3 : ((7 : Int) ^ i) = ((7 ^ i : Nat) : Int) := by simp
  rw [h3]
  have h4 : (7 : Nat) ^ 10 = 282475249 := by decide
  generalize (7 : Nat) ^ i = q at *
  omega
 have hs : dear ((i + 1 : Nat) : Int) = dear (i : Int) * 7 := by
  unfold dear
  rw [Int.toNat_natCast, Int.toNat_natCast, Int.pow_succ]
  omega
 simp -failIfUnchanged (disch := first|omega|(simp<;>omega)|fail) only [go_sem,simprocAttr]
 refine wcond_dec (fun hc => ?_) (fun hc => ?_)
 ·obtain ⟨D, hD⟩ : ∃ D, dear (i : Int) = D := ⟨_, rfl⟩
  rw [hD] at hs hd ⊢
  simp -failIfUnchanged (disch := first|omega|(simp<;>omega)|fail) only [go_sem,simprocAttr]
  refine ⟨i + 1, by dsimp only; omega, by dsimp only; omega, ?_⟩
  dsimp only
  rw [hs]
  simp -failIfUnchanged (disch := first|omega|(simp<;>omega)|fail) only [go_sem,simprocAttr]
  try simp
 ·obtain rfl : i = n := by omega
  simp -failIfUnchanged (disch := first|omega|(simp<;>omega)|fail) only [go_sem,simprocAttr]
abbrev TC (t : Tn) (d : List Int) : List AV := [IS t.hs, IS t.ws, WS t.wy, .int (-1), .int (-1), .int 0, IS d]
abbrev TR (t : Tn) (d : List Int) : AV := .ref 7 [.agg (TC t d)] 0 0
theorem wop_g {P : Env} {dr : Bool} {d : Option Nat} {op : VOp} {t : Nat} {want : Bool} {next : AS → Prop} {σ : AS} : WOp P dr ⟨d, op, some (t, want)⟩ next σ = WGd P dr (get σ.fr t) want d op next σ := rfl
attribute [go_sem] wop_g
theorem cells_ref {sz i o : Nat} {es : List AV} : (AV.ref sz es i o).cells = [AV.ref sz es i o] := rfl
attribute [go_sem] cells_ref
theorem c177 (t : Tn) (d : List Int) (b : Bool) : Ctr Tryz.prog 177 [.bool b, .ref 1 [.agg [TR t d]] 0 0] (.int 0) := by
 refine ctr_of_wp hmix Tryz.func177 m177 rfl ?_
 unfold v177
 simp -failIfUnchanged (disch := first|omega|(simp<;>omega)|fail) only [go_sem,simprocAttr]
 refine wcond_bool (fun h => ?_) (fun h => ?_)
 ·simp -failIfUnchanged (disch := first|omega|(simp<;>omega)|fail) only [go_sem,simprocAttr]
 ·simp -failIfUnchanged (disch := first|omega|(simp<;>omega)|fail) only [go_sem,simprocAttr]
abbrev big : Int := 1000000000000
structure Sg (n : Nat) (s : St) (k : Nat) : Prop where
 l1 : s.1.length = n
 l2 : s.2.length = n
 lo : ∀ x, x < n → -(k * big) ≤ cA s.1 x
 hi : ∀ x, x < n → cA s.1 x ≤ far
 nd : ∀ x, x < n → (bA s.2 x).f < n
theorem Sg.mono {n : Nat} {s : St} {k k' : Nat} (h : Sg n s k) (hk : k ≤ k') : Sg n s k' :=
 ⟨h.l1, h.l2, fun x hx => by have := h.lo x hx; unfold big at *; omega, h.hi, h.nd⟩
theorem Sg.rlx {n : Nat} {s : St} {k : Nat} (h : Sg n s k) {a : Ar} (hf : a.f < n) (ht : a.t < n) (hc : -big ≤ a.c ∧ a.c ≤ big) : Sg n (rlx s a) (k + 1) := by
 obtain ⟨e1, e2⟩ := rlx_len s a
 refine ⟨by rw [e1]; exact h.l1, by rw [e2]; exact h.l2, fun x hx => ?_, fun x hx => Int.le_trans (rlx_le s a x) (h.hi x hx), fun x hx => ?_⟩
 ·have h1 := h.lo x hx
  have h2 := h.lo a.f hf
  unfold Bu.rlx
  split
  ·show _ ≤ cA (s.1.set a.t _) x
   rw [cA_set (by rw [h.l1]; exact ht)]
   split
   ·unfold big at *; omega
   ·unfold big at *; omega
  ·unfold big at *; omega
 ·unfold Bu.rlx
  split
  ·show (bA (s.2.set a.t a) x).f < n
   rw [bA_set (by rw [h.l2]; exact ht)]
   split
   ·exact hf
   ·exact h.nd x hx
  ·exact h.nd x hx
end Go.Proofs.YtpangdaijhiohaaGreatDoor.Bd

set_option linter.unusedSimpArgs false
set_option linter.unusedVariables false
set_option linter.unnecessarySimpa false
namespace Go.Proofs.YtpangdaijhiohaaGreatDoor.Bd
open Go Go.V Mo Bu
def rgA : VC :=
 (.opsN false [
  ⟨some 8, .alloc 8 [.int 0, .int 0, .int 0, .int 0, .int 0], none⟩,
  ⟨none, .store 5 (.t 8) (.t 47) (some 8), none⟩] (some [5, 6, 8]))
def rgB : VC :=
 (.block 5
  (.seq
  (.ops true [
  ⟨some 48, .load 1 false (.t 5) [], none⟩,
  ⟨some 49, .fld 0 (.t 8), none⟩,
  ⟨some 50, .load 1 false (.t 49) [], none⟩,
  ⟨some 51, .idx 1 (.t 48) (.t 50), none⟩,
  ⟨some 52, .load 1 false (.t 51) [], none⟩,
  ⟨some 53, .bin .lss (.t 52) (.k (.int 1152921504606846976)), none⟩,
  ⟨some 54, .mov (.t 53), none⟩,
  ⟨some 55, .load 1 false (.t 5) [], some (54, true)⟩,
  ⟨some 56, .fld 0 (.t 8), some (54, true)⟩,
  ⟨some 57, .load 1 false (.t 56) [], some (54, true)⟩,
  ⟨some 58, .idx 1 (.t 55) (.t 57), some (54, true)⟩,
  ⟨some 59, .load 1 false (.t 58) [], some (54, true)⟩,
  ⟨some 60, .fld 2 (.t 8), some (54, true)⟩,
  ⟨some 61, .load 1 false (.t 60) [], some (54, true)⟩,
  ⟨some 62, .bin .add (.t 59) (.t 61), some (54, true)⟩,
  ⟨some 63, .load 1 false (.t 5) [], some (54, true)⟩,
  ⟨some 64, .fld 1 (.t 8), some (54, true)⟩,
  ⟨some 65, .load 1 false (.t 64) [], some (54, true)⟩,
  ⟨some 66, .idx 1 (.t 63) (.t 65), some (54, true)⟩,
  ⟨some 67, .load 1 false (.t 66) [], some (54, true)⟩,
  ⟨some 68, .bin .lss (.t 62) (.t 67), some (54, true)⟩,
  ⟨some 69, .pick (.t 54) (.t 68) (.k (.bool false)), none⟩] (some [5, 6, 8, 69]))
  (.cond (.t 69)
  (.ops true [
  ⟨some 70, .load 1 false (.t 5) [26, 28], none⟩,
  ⟨some 71, .fld 1 (.t 8), none⟩,
  ⟨some 72, .load 1 false (.t 71) [26, 28], none⟩,
  ⟨some 73, .load 1 false (.t 6) [26, 28], none⟩,
  ⟨some 74, .fld 1 (.t 8), none⟩,
  ⟨some 75, .load 1 false (.t 74) [26, 28], none⟩,
  ⟨some 76, .load 1 false (.t 5) [26, 28], none⟩,
  ⟨some 77, .fld 0 (.t 8), none⟩,
  ⟨some 78, .load 1 false (.t 77) [26, 28], none⟩,
  ⟨some 79, .idx 1 (.t 76) (.t 78), none⟩,
  ⟨some 80, .load 1 false (.t 79) [28], none⟩,
  ⟨some 81, .fld 2 (.t 8), none⟩,
  ⟨some 82, .load 1 false (.t 81) [26, 28], none⟩,
  ⟨some 83, .bin .add (.t 80) (.t 82), none⟩,
  ⟨some 84, .load 5 true (.t 8) [26, 28], none⟩,
  ⟨some 85, .idx 1 (.t 70) (.t 72), none⟩,
  ⟨none, .store 1 (.t 85) (.t 83) (some 26), none⟩,
  ⟨some 86, .idx 5 (.t 73) (.t 75), none⟩,
  ⟨none, .store 5 (.t 86) (.t 84) (some 28), none⟩] (some []))
  .skip)))
abbrev ARv (a : Ar) : AV := .agg [.int a.f, .int a.t, .int a.c, .int a.y, .int a.m]
abbrev arC (a : Ar) : List AV := [.int a.f, .int a.t, .int a.c, .int a.y, .int a.m]
def flA : List Ar → List AV
 | [] => []
 | a :: l => arC a ++ flA l
theorem flA_len (l : List Ar) : (flA l).length = l.length * 5 := by
 induction l with
 | nil => rfl
 | cons a r ih => simp only [flA, List.length_append, ih, arC, List.length_cons, List.length_nil]; omega
theorem flA_app (l k : List Ar) : flA (l ++ k) = flA l ++ flA k := by
 induction l with
 | nil => rfl
 | cons a r ih => simp only [List.cons_append, flA, ih, List.append_assoc]
theorem flA_int (l : List Ar) : ∀ c ∈ flA l, ∃ x : Int, c = .int x := by
 induction l with
 | nil => intro c hc; simp [flA] at hc
 | cons a r ih =>
  intro c hc
  simp only [flA, arC, List.cons_append, List.nil_append, List.mem_cons] at hc
  rcases hc with h | h | h | h | h | h
  ·exact ⟨_, h⟩
  ·exact ⟨_, h⟩
  ·exact ⟨_, h⟩
  ·exact ⟨_, h⟩
  ·exact ⟨_, h⟩
  ·exact ih c h
theorem flA_set (l : List Ar) (p : Nat) (a : Ar) (h : p < l.length) : setAt (flA l) (p * 5) [.int a.f, .int a.t, .int a.c, .int a.y, .int a.m] = flA (l.set p a) := by
 induction l generalizing p with
 | nil => simp at h
 | cons s r ih =>
  cases p with
  | zero => rfl
  | succ p =>
   simp only [flA, arC, List.set_cons_succ]
   have := ih p (by simpa using h)
   rw [show (p + 1) * 5 = p * 5 + 1 + 1 + 1 + 1 + 1 by omega]
   simp only [List.cons_append, List.nil_append, setAt]
   rw [this]
theorem flA_tidy (l : List Ar) (hp : HpL) : (flA l).map (tidy hp) = flA l := by
 induction l with
 | nil => rfl
 | cons s r ih => simp only [flA, arC, List.map_append, List.map_cons, List.map_nil, tidy_int, ih]
theorem flA_strip (l : List Ar) (hp : HpL) : (flA l).map (strip hp) = flA l := by
 induction l with
 | nil => rfl
 | cons s r ih => simp only [flA, arC, List.map_append, List.map_cons, List.map_nil, strip_int, ih]
theorem flA_scopes (l : List Ar) (τ : AS) : scopes τ (flA l) = True := by
 induction l with
 | nil => rfl
 | cons s r ih => simp only [flA, arC, List.cons_append, List.nil_append, scopes, inS_int, ih, and_self]
theorem flA_bids (l : List Ar) : bids (flA l) = [] := by
 induction l with
 | nil => rfl
 | cons s r ih => simp only [flA, arC, List.cons_append, List.nil_append, bids, bid_int, ih]
theorem flA_chunk (l : List Ar) (p : Nat) (h : p < l.length) : chunk true 5 (flA l) (p * 5) = ARv (bA l p) := by
 induction l generalizing p with
 | nil => simp at h
 | cons s r ih =>
  cases p with
  | zero => simp [chunk, flA, arC, bA]
  | succ p =>
   have := ih p (by simpa using h)
   simp only [chunk, if_true] at this ⊢
   rw [show (p + 1) * 5 = p * 5 + 5 by omega]
   simp only [flA, arC, List.cons_append, List.nil_append, List.drop_succ_cons]
   exact this
theorem flA_zero (n : Nat) : zeros [.int 0, .int 0, .int 0, .int 0, .int 0] n = flA (List.replicate n default) := by
 induction n with
 | zero => rfl
 | succ n ih => rw [zeros, ih, List.replicate_succ]; rfl
theorem flA_get (l : List Ar) (p : Nat) (h : p < l.length) : (flA l)[p * 5]?.getD .und = .int (bA l p).f := by
 induction l generalizing p with
 | nil => simp at h
 | cons s r ih =>
  cases p with
  | zero => rfl
  | succ p =>
   have := ih p (by simpa using h)
   rw [show (p + 1) * 5 = p * 5 + 1 + 1 + 1 + 1 + 1 by omega]
   simp only [flA, arC, List.cons_append, List.nil_append, List.getElem?_cons_succ]
   exact this
attribute [go_sem] flA_len flA_tidy flA_strip flA_scopes flA_bids
abbrev HC (n : Nat) (s : St) : HpL := [(5, ⟨[.bsl 26 0 1 n false], false⟩), (6, ⟨[.bsl 28 0 5 n true], false⟩), (26, ⟨s.1.map .int, false⟩), (28, ⟨flA s.2, false⟩)]
abbrev frC (t : Tn) (d : List Int) (n r : Nat) : FrL := [(0, TR t d), (4, .int n), (5, .ptr 5 0), (6, .ptr 6 0), (42, .int n), (43, .int r), (46, .clo 163 [TR t d] [])]
abbrev P1 (t : Tn) (d : List Int) : HpL := [(4002, ⟨[TR t d], true⟩)]
abbrev P2 (t : Tn) (d : List Int) (p q : Int) : HpL := [(4015, ⟨[.int p, .int q], false⟩), (4002, ⟨[TR t d], true⟩)]
theorem rlx_hit {s : St} {a : Ar} (h1 : cA s.1 a.f < far) (h2 : cA s.1 a.f + a.c < cA s.1 a.t) : rlx s a = (s.1.set a.t (cA s.1 a.f + a.c), s.2.set a.t a) := if_pos ⟨h1, h2⟩
theorem rlx_no {s : St} {a : Ar} (h : ¬ (cA s.1 a.f < far ∧ cA s.1 a.f + a.c < cA s.1 a.t)) : rlx s a = s := if_neg h
theorem bodyB1 {n : Nat} {t : Tn} {d : List Int} {s : St} {k : Nat} {a : Ar} {Xa : List FrL} (hs : Sg n s k) (hk : k ≤ 1000) (hf : a.f < n) (ht : a.t < n) (hc : -big ≤ a.c ∧ a.c ≤ big)
  {post : Bool → HpL → TkL → Option Ex → Prop} (hp : post true ((8, ⟨arC a, false⟩) :: P1 t d ++ HC n (rlx s a)) [] none) :
  WP ⟨Tryz.prog, Xa, none, true⟩ rgB (BodyQ post) ⟨[(5, .ptr 5 0), (6, .ptr 6 0), (8, .ptr 8 0)], (8, ⟨arC a, false⟩) :: P1 t d ++ HC n s, [], none⟩ := by
 unfold rgB
 have h1 := hs.lo a.f hf
 have h2 := hs.hi a.f hf
 have h3 := hs.hi a.t ht
 have e1 := hs.l1
 have e2 := hs.l2
 obtain ⟨S1, S2⟩ := s
 have hfl := flA_len S2
 dsimp only at h1 h2 h3 e1 e2
 unfold big at hc h1
 unfold cA at h1 h2 h3
 unfold far at h2 h3
 have ew : w64 (S1[a.f]?.getD default + a.c) = S1[a.f]?.getD default + a.c := w64_id (by omega)
 simp -failIfUnchanged (disch := first|omega|(simp<;>omega)|fail) only [go_sem,simprocAttr]
 refine WGd_bool (fun hq => ?_) (fun hq => ?_)
 ·have hq' := of_decide_eq_true hq
  simp -failIfUnchanged (disch := first|omega|(simp<;>omega)|fail) only [go_sem,simprocAttr, hq]
  refine wcond_dec (fun hd => ?_) (fun hd => ?_)
  ·rw [rlx_hit (s := (S1, S2)) (a := a) hq' hd] at hp
   simp -failIfUnchanged (disch := first|omega|(simp<;>omega)|fail) only [go_sem,simprocAttr, flA_set]
   exact hp
  ·rw [rlx_no (s := (S1, S2)) (a := a) (fun x => hd x.2)] at hp
   simp -failIfUnchanged (disch := first|omega|(simp<;>omega)|fail) only [go_sem,simprocAttr]
   exact hp
 ·have hq' : ¬ (S1[a.f]?.getD default < 1152921504606846976) := of_decide_eq_false hq
  rw [rlx_no (s := (S1, S2)) (a := a) (fun x => hq' x.1)] at hp
  simp -failIfUnchanged (disch := first|omega|(simp<;>omega)|fail) only [go_sem,simprocAttr, hq]
  exact hp
theorem bodyB2 {n : Nat} {t : Tn} {d : List Int} {p q : Int} {s : St} {k : Nat} {a : Ar} {Xa : List FrL} (hs : Sg n s k) (hk : k ≤ 1000) (hf : a.f < n) (ht : a.t < n) (hc : -big ≤ a.c ∧ a.c ≤ big)
  {post : Bool → HpL → TkL → Option Ex → Prop} (hp : post true ((8, ⟨arC a, false⟩) :: P2 t d p q ++ HC n (rlx s a)) [] none) :
  WP ⟨Tryz.prog, Xa, none, true⟩ rgB (BodyQ post) ⟨[(5, .ptr 5 0), (6, .ptr 6 0), (8, .ptr 8 0)], (8, ⟨arC a, false⟩) :: P2 t d p q ++ HC n s, [], none⟩ := by
 unfold rgB
 have h1 := hs.lo a.f hf
 have h2 := hs.hi a.f hf
 have h3 := hs.hi a.t ht
 have e1 := hs.l1
 have e2 := hs.l2
 obtain ⟨S1, S2⟩ := s
 have hfl := flA_len S2
 dsimp only at h1 h2 h3 e1 e2
 unfold big at hc h1
 unfold cA at h1 h2 h3
 unfold far at h2 h3
 have ew : w64 (S1[a.f]?.getD default + a.c) = S1[a.f]?.getD default + a.c := w64_id (by omega)
 simp -failIfUnchanged (disch := first|omega|(simp<;>omega)|fail) only [go_sem,simprocAttr]
 refine WGd_bool (fun hq => ?_) (fun hq => ?_)
 ·have hq' := of_decide_eq_true hq
  simp -failIfUnchanged (disch := first|omega|(simp<;>omega)|fail) only [go_sem,simprocAttr, hq]
  refine wcond_dec (fun hd => ?_) (fun hd => ?_)
  ·rw [rlx_hit (s := (S1, S2)) (a := a) hq' hd] at hp
   simp -failIfUnchanged (disch := first|omega|(simp<;>omega)|fail) only [go_sem,simprocAttr, flA_set]
   exact hp
  ·rw [rlx_no (s := (S1, S2)) (a := a) (fun x => hd x.2)] at hp
   simp -failIfUnchanged (disch := first|omega|(simp<;>omega)|fail) only [go_sem,simprocAttr]
   exact hp
 ·have hq' : ¬ (S1[a.f]?.getD default < 1152921504606846976) := of_decide_eq_false hq
  rw [rlx_no (s := (S1, S2)) (a := a) (fun x => hq' x.1)] at hp
  simp -failIfUnchanged (disch := first|omega|(simp<;>omega)|fail) only [go_sem,simprocAttr, hq]
  exact hp
theorem body1 {n r : Nat} {t : Tn} {d : List Int} {s : St} {k : Nat} {a : Ar} {Xa : List FrL} (hs : Sg n s k) (hk : k ≤ 1000) (hf : a.f < n) (ht : a.t < n) (hc : -big ≤ a.c ∧ a.c ≤ big)
  (hX : ∀ fr, leX ⟨fr, P1 t d ++ HC n s, [], none⟩ Xa)
  {post : Bool → HpL → TkL → Option Ex → Prop} (hp : post true ((8, ⟨arC a, false⟩) :: P1 t d ++ HC n (rlx s a)) [] none) :
  WP ⟨Tryz.prog, Xa, none, true⟩ rgA (Then (WP ⟨Tryz.prog, Xa, none, true⟩ rgB (BodyQ post)) (fun _ _ => False)) ⟨putL [47] [ARv a] (frC t d n r), P1 t d ++ HC n s, [], none⟩ := by
 unfold rgA
 refine wopsW [] ⟨putL [47] [ARv a] (frC t d n r), P1 t d ++ HC n s, [], none⟩ ?_ (hX _) ?_
 ·simp -failIfUnchanged (disch := first|omega|(simp<;>omega)|fail) only [go_sem,simprocAttr]
 ·simp -failIfUnchanged (disch := first|omega|(simp<;>omega)|fail) only [go_sem,simprocAttr]
  exact bodyB1 hs hk hf ht hc hp
theorem body1x {x : Ar} {n r : Nat} {t : Tn} {d : List Int} {s : St} {k : Nat} {a : Ar} {Xa : List FrL} (hs : Sg n s k) (hk : k ≤ 1000) (hf : a.f < n) (ht : a.t < n) (hc : -big ≤ a.c ∧ a.c ≤ big)
  (hX : ∀ fr, leX ⟨fr, P1 t d ++ HC n s, [], none⟩ Xa)
  {post : Bool → HpL → TkL → Option Ex → Prop} (hp : post true ((8, ⟨arC a, false⟩) :: P1 t d ++ HC n (rlx s a)) [] none) :
  WP ⟨Tryz.prog, Xa, none, true⟩ rgA (Then (WP ⟨Tryz.prog, Xa, none, true⟩ rgB (BodyQ post)) (fun _ _ => False)) ⟨putL [47] [ARv a] (frC t d n r), (8, ⟨arC x, false⟩) :: P1 t d ++ HC n s, [], none⟩ := by
 unfold rgA
 refine wopsW [] ⟨putL [47] [ARv a] (frC t d n r), P1 t d ++ HC n s, [], none⟩ ?_ (hX _) ?_
 ·simp -failIfUnchanged (disch := first|omega|(simp<;>omega)|fail) only [go_sem,simprocAttr]
 ·simp -failIfUnchanged (disch := first|omega|(simp<;>omega)|fail) only [go_sem,simprocAttr]
  exact bodyB1 hs hk hf ht hc hp
theorem body2 {p q : Int} {n r : Nat} {t : Tn} {d : List Int} {s : St} {k : Nat} {a : Ar} {Xa : List FrL} (hs : Sg n s k) (hk : k ≤ 1000) (hf : a.f < n) (ht : a.t < n) (hc : -big ≤ a.c ∧ a.c ≤ big)
  (hX : ∀ fr, leX ⟨fr, P2 t d p q ++ HC n s, [], none⟩ Xa)
  {post : Bool → HpL → TkL → Option Ex → Prop} (hp : post true ((8, ⟨arC a, false⟩) :: P2 t d p q ++ HC n (rlx s a)) [] none) :
  WP ⟨Tryz.prog, Xa, none, true⟩ rgA (Then (WP ⟨Tryz.prog, Xa, none, true⟩ rgB (BodyQ post)) (fun _ _ => False)) ⟨putL [47] [ARv a] (frC t d n r), P2 t d p q ++ HC n s, [], none⟩ := by
 unfold rgA
 refine wopsW [] ⟨putL [47] [ARv a] (frC t d n r), P2 t d p q ++ HC n s, [], none⟩ ?_ (hX _) ?_
 ·simp -failIfUnchanged (disch := first|omega|(simp<;>omega)|fail) only [go_sem,simprocAttr]
 ·simp -failIfUnchanged (disch := first|omega|(simp<;>omega)|fail) only [go_sem,simprocAttr]
  exact bodyB2 hs hk hf ht hc hp
theorem body2x {p q : Int} {x : Ar} {n r : Nat} {t : Tn} {d : List Int} {s : St} {k : Nat} {a : Ar} {Xa : List FrL} (hs : Sg n s k) (hk : k ≤ 1000) (hf : a.f < n) (ht : a.t < n) (hc : -big ≤ a.c ∧ a.c ≤ big)
  (hX : ∀ fr, leX ⟨fr, P2 t d p q ++ HC n s, [], none⟩ Xa)
  {post : Bool → HpL → TkL → Option Ex → Prop} (hp : post true ((8, ⟨arC a, false⟩) :: P2 t d p q ++ HC n (rlx s a)) [] none) :
  WP ⟨Tryz.prog, Xa, none, true⟩ rgA (Then (WP ⟨Tryz.prog, Xa, none, true⟩ rgB (BodyQ post)) (fun _ _ => False)) ⟨putL [47] [ARv a] (frC t d n r), (8, ⟨arC x, false⟩) :: P2 t d p q ++ HC n s, [], none⟩ := by
 unfold rgA
 refine wopsW [] ⟨putL [47] [ARv a] (frC t d n r), P2 t d p q ++ HC n s, [], none⟩ ?_ (hX _) ?_
 ·simp -failIfUnchanged (disch := first|omega|(simp<;>omega)|fail) only [go_sem,simprocAttr]
 ·simp -failIfUnchanged (disch := first|omega|(simp<;>omega)|fail) only [go_sem,simprocAttr]
  exact bodyB2 hs hk hf ht hc hp
end Go.Proofs.YtpangdaijhiohaaGreatDoor.Bd

set_option linter.unusedSimpArgs false
set_option linter.unusedVariables false
set_option linter.unnecessarySimpa false
namespace Go.Proofs.YtpangdaijhiohaaGreatDoor.Bd
open Go Go.V Mo Bu
theorem c163 (t : Tn) (hv : Vw t) (d : List Int) (hd : Dd t d) {n r : Nat} (hn : nn (gr t) = n) {s : St} {k : Nat} (hs : Sg n s k) (hk : k ≤ 900) (l : Nat) (T : YT)
  (hT : ∀ Xa vals hp tk post, vals.length = 1 → WP ⟨Tryz.prog, Xa, none, true⟩ rgA (Then (WP ⟨Tryz.prog, Xa, none, true⟩ rgB (BodyQ post)) (fun _ _ => False)) ⟨putL [47] vals (frC t d n r), hp, tk, none⟩ → T Xa vals hp tk post) :
  CSem ⟨Tryz.prog, [frC t d n r], some (l, T), false⟩ 163 [TR t d, .yld l] (HC n s) [] none (fun _ hp' tk' pd' => tk' = [] ∧ pd' = none ∧ hp' = P1 t d ++ HC n (rnd (arcs (gr t) (cA d)) s)) := by
 refine csem_of_wp hmix Tryz.func163 m163 rfl rfl ?_
 unfold v163
 have n1 := hv.n1
 have n2 := hv.n2
 have n3 := hv.n3
 have hl := hd.len
 simp -failIfUnchanged (disch := first|omega|(simp<;>omega)|fail) only [go_sem,simprocAttr]
 refine wcall (c126 t hv d hd) ?_
 simp -failIfUnchanged (disch := first|omega|(simp<;>omega)|fail) only [go_sem,simprocAttr]
 obtain ⟨G, hG⟩ : ∃ G, gr t = G := ⟨_, rfl⟩
 obtain ⟨D, hD⟩ : ∃ D, cA d = D := ⟨_, rfl⟩
 have hGW : G.W = t.ws.length := by rw [← hG]; rfl
 have hGH : G.H = t.hs.length := by rw [← hG]; rfl
 have hGN : G.N = t.wy.length := by rw [← hG]; rfl
 have hsp : ((sp G : Nat) : Int) = t.ws.length + t.hs.length := by unfold sp; rw [hGW, hGH]; omega
 have hsk : ((sk G : Nat) : Int) = t.ws.length + t.hs.length + 1 := by unfold sk; rw [hGW, hGH]; omega
 have hnn : n = t.ws.length + t.hs.length + 2 := by rw [← hn, hG]; unfold nn; rw [hGW, hGH]
 have hgv : GV G := by rw [← hG]; exact gr_v hv
 obtain ⟨w1, hw1⟩ : ∃ w1 : Nat → St, w1 = fun i => ((List.range i).flatMap (wArc G D)).foldl rlx s := ⟨_, rfl⟩
 have w1_0 : w1 0 = s := by rw [hw1]; rfl
 have w1_s : ∀ i, w1 (i + 1) = (wArc G D i).foldl rlx (w1 i) := fun i => by
  rw [hw1]
  dsimp only
  rw [List.range_succ, List.flatMap_append, List.foldl_append]
  simp
 have hlh : (Bu.hasL t d).length = t.ws.length := hzL_len t d t.wy.length
 have hll : (lacL t d).length = t.hs.length := lkL_len t d t.wy.length
 refine wp_loopX Nat (fun i => ⟨[(1, .yld l), (2, .ptr 4002 0), (4, IS (lacL t d)), (6, .int t.ws.length), (7, .int (sp G : Nat)), (8, .int (sk G : Nat)), (9, .clo 177 [] [.ref 1 [.agg [TR t d]] 0 0]), (45, IS (Bu.hasL t d)), (46, .int (Bu.hasL t d).length), (47, .int i)], P1 t d ++ HC n (w1 i), [], none⟩)
  (fun i => i ≤ t.ws.length ∧ Sg n (w1 i) (k + 2 * i)) (fun i => t.ws.length - i) 0 ⟨by omega, by rw [w1_0]; exact hs⟩ (by rw [w1_0]; simp -failIfUnchanged (disch := first|omega|(simp<;>omega)|fail) only [go_sem,simprocAttr]; omega) (fun x => by simp -failIfUnchanged (disch := first|omega|(simp<;>omega)|fail) only [go_sem,simprocAttr]) ?_
 rintro i ⟨hi, hsg⟩
 have hw1s := w1_s i
 obtain ⟨u, hu⟩ : ∃ u, w1 i = u := ⟨_, rfl⟩
 rw [hu] at hw1s hsg ⊢
 simp -failIfUnchanged (disch := first|omega|(simp<;>omega)|fail) only [go_sem,simprocAttr]
 refine wcond_dec (fun hc => ?_) (fun hc => ?_)
 ·have hlt : i < t.ws.length := by omega
  have ha := has_at hv d i
  have hb := hzL_bd hv hd (Nat.le_refl _) hlt
  have hws := hv.ws i hlt
  obtain ⟨A, hA⟩ : ∃ A, cA (Bu.hasL t d) i = A := ⟨_, rfl⟩
  have hA' : (Bu.hasL t d)[i]?.getD default = A := hA
  rw [hA] at ha hb
  simp -failIfUnchanged (disch := first|omega|(simp<;>omega)|fail) only [go_sem,simprocAttr, hA']
  have hwa : wArc G D i = (if 0 < A then [⟨sp G, i, 0, -1, 0⟩] else []) ++ (if A < cA t.ws i then [⟨i, sp G, 0, -1, 0⟩] else []) := by
   unfold wArc
   rw [ha, hG, hD]
   congr 2
   rw [← hG]
   rfl
  have hf1 : sp G < n := by rw [← hn, hG]; unfold sp nn; omega
  have hf2 : i < n := by omega
  have hbig : -big ≤ (0 : Int) ∧ (0 : Int) ≤ big := by unfold big; omega
  have hcA : (t.ws[i]?.getD default) = cA t.ws i := rfl
  have hq1 : ∀ {v : St}, Sg n v (k + 2 * i) → Sg n (rlx v ⟨sp G, i, 0, -1, 0⟩) (k + 2 * i + 1) := fun h => h.rlx hf1 hf2 hbig
  have hq2 : ∀ {v : St}, Sg n v (k + 2 * i + 1) → Sg n (rlx v ⟨i, sp G, 0, -1, 0⟩) (k + 2 * i + 2) := fun h => h.rlx hf2 hf1 hbig
  refine WGd_bool (fun h1 => ?_) (fun h1 => ?_)
  ·have h1' := of_decide_eq_true h1
   rw [if_pos h1'] at hwa
   simp -failIfUnchanged (disch := first|omega|(simp<;>omega)|fail) only [go_sem,simprocAttr, h1]
   refine wcall (c177 t d _) ?_
   simp -failIfUnchanged (disch := first|omega|(simp<;>omega)|fail) only [go_sem,simprocAttr]
   refine wyield (hT _ _ _ _ _ rfl (body1 (a := ⟨sp G, i, 0, -1, 0⟩) hsg (by omega) hf1 hf2 hbig ?_ ?_))
   ·intro fr
    simp -failIfUnchanged (disch := first|omega|(simp<;>omega)|fail) only [go_sem,simprocAttr]
   simp -failIfUnchanged (disch := first|omega|(simp<;>omega)|fail) only [go_sem,simprocAttr, hcA]
   have hsg1 := hq1 hsg
   obtain ⟨u1, hu1⟩ : ∃ u1, rlx u ⟨sp G, i, 0, -1, 0⟩ = u1 := ⟨_, rfl⟩
   rw [hu1] at hsg1 ⊢
   refine WGd_bool (fun h2 => ?_) (fun h2 => ?_)
   ·have h2' := of_decide_eq_true h2
    rw [if_pos h2'] at hwa
    simp -failIfUnchanged (disch := first|omega|(simp<;>omega)|fail) only [go_sem,simprocAttr, h2]
    refine wcall (c177 t d _) ?_
    simp -failIfUnchanged (disch := first|omega|(simp<;>omega)|fail) only [go_sem,simprocAttr]
    refine wyield (hT _ _ _ _ _ rfl (body1x (a := ⟨i, sp G, 0, -1, 0⟩) hsg1 (by omega) hf2 hf1 hbig ?_ ?_))
    ·intro fr
     simp -failIfUnchanged (disch := first|omega|(simp<;>omega)|fail) only [go_sem,simprocAttr]
    simp -failIfUnchanged (disch := first|omega|(simp<;>omega)|fail) only [go_sem,simprocAttr]
    have e : w1 (i + 1) = rlx u1 ⟨i, sp G, 0, -1, 0⟩ := by rw [hw1s, hwa, ← hu1]; rfl
    refine lpx_norm ⟨i + 1, ⟨by omega, ?_⟩, by omega, ?_, by simp -failIfUnchanged (disch := first|omega|(simp<;>omega)|fail) only [go_sem,simprocAttr]⟩
    ·rw [e]; exact hq2 hsg1
    ·rw [e]
     simp -failIfUnchanged (disch := first|omega|(simp<;>omega)|fail) only [go_sem,simprocAttr]
     try simp
   ·have h2' := of_decide_eq_false h2
    rw [if_neg h2'] at hwa
    simp -failIfUnchanged (disch := first|omega|(simp<;>omega)|fail) only [go_sem,simprocAttr, h2]
    have e : w1 (i + 1) = u1 := by rw [hw1s, hwa, ← hu1]; rfl
    refine lpx_norm ⟨i + 1, ⟨by omega, ?_⟩, by omega, ?_, by simp -failIfUnchanged (disch := first|omega|(simp<;>omega)|fail) only [go_sem,simprocAttr]⟩
    ·rw [e]; exact hsg1.mono (by omega)
    ·rw [e]
     simp -failIfUnchanged (disch := first|omega|(simp<;>omega)|fail) only [go_sem,simprocAttr]
     try simp
  ·have h1' := of_decide_eq_false h1
   rw [if_neg h1'] at hwa
   simp -failIfUnchanged (disch := first|omega|(simp<;>omega)|fail) only [go_sem,simprocAttr, h1, hcA]
   refine WGd_bool (fun h2 => ?_) (fun h2 => ?_)
   ·have h2' := of_decide_eq_true h2
    rw [if_pos h2'] at hwa
    simp -failIfUnchanged (disch := first|omega|(simp<;>omega)|fail) only [go_sem,simprocAttr, h2]
    refine wcall (c177 t d _) ?_
    simp -failIfUnchanged (disch := first|omega|(simp<;>omega)|fail) only [go_sem,simprocAttr]
    refine wyield (hT _ _ _ _ _ rfl (body1 (a := ⟨i, sp G, 0, -1, 0⟩) hsg (by omega) hf2 hf1 hbig ?_ ?_))
    ·intro fr
     simp -failIfUnchanged (disch := first|omega|(simp<;>omega)|fail) only [go_sem,simprocAttr]
    simp -failIfUnchanged (disch := first|omega|(simp<;>omega)|fail) only [go_sem,simprocAttr]
    have e : w1 (i + 1) = rlx u ⟨i, sp G, 0, -1, 0⟩ := by rw [hw1s, hwa]; rfl
    refine lpx_norm ⟨i + 1, ⟨by omega, ?_⟩, by omega, ?_, by simp -failIfUnchanged (disch := first|omega|(simp<;>omega)|fail) only [go_sem,simprocAttr]⟩
    ·rw [e]; exact hq2 (hsg.mono (by omega))
    ·rw [e]
     simp -failIfUnchanged (disch := first|omega|(simp<;>omega)|fail) only [go_sem,simprocAttr]
     try simp
   ·have h2' := of_decide_eq_false h2
    rw [if_neg h2'] at hwa
    simp -failIfUnchanged (disch := first|omega|(simp<;>omega)|fail) only [go_sem,simprocAttr, h2]
    have e : w1 (i + 1) = u := by rw [hw1s, hwa]; rfl
    refine lpx_norm ⟨i + 1, ⟨by omega, ?_⟩, by omega, ?_, by simp -failIfUnchanged (disch := first|omega|(simp<;>omega)|fail) only [go_sem,simprocAttr]⟩
    ·rw [e]; exact hsg.mono (by omega)
    ·rw [e]
     simp -failIfUnchanged (disch := first|omega|(simp<;>omega)|fail) only [go_sem,simprocAttr]
     try simp
 ·-- the houses
  obtain rfl : i = t.ws.length := by omega
  clear hw1s
  simp -failIfUnchanged (disch := first|omega|(simp<;>omega)|fail) only [go_sem,simprocAttr]
  rw [← hu] at hsg ⊢
  obtain ⟨hF, hh1⟩ : ∃ hF : Nat → St, hF = fun i => ((List.range i).flatMap (hArc G D)).foldl rlx (w1 t.ws.length) := ⟨_, rfl⟩
  have h1_0 : hF 0 = w1 t.ws.length := by rw [hh1]; rfl
  have h1_s : ∀ i, hF (i + 1) = (hArc G D i).foldl rlx (hF i) := fun i => by
   rw [hh1]
   dsimp only
   rw [List.range_succ, List.flatMap_append, List.foldl_append]
   simp
  refine wp_loopX Nat (fun i => ⟨[(1, .yld l), (2, .ptr 4002 0), (6, .int t.ws.length), (8, .int (sk G : Nat)), (9, .clo 177 [] [.ref 1 [.agg [TR t d]] 0 0]), (102, IS (lacL t d)), (103, .int (lacL t d).length), (104, .int i)], P1 t d ++ HC n (hF i), [], none⟩)
   (fun i => i ≤ t.hs.length ∧ Sg n (hF i) (k + 10 + 2 * i)) (fun i => t.hs.length - i) 0 ⟨by omega, by rw [h1_0]; exact hsg.mono (by omega)⟩ (by rw [h1_0]; simp -failIfUnchanged (disch := first|omega|(simp<;>omega)|fail) only [go_sem,simprocAttr]; try simp) (fun x => by simp -failIfUnchanged (disch := first|omega|(simp<;>omega)|fail) only [go_sem,simprocAttr]) ?_
  clear hsg hu u
  rintro i ⟨hi, hsg⟩
  have hh1s := h1_s i
  obtain ⟨u, hu⟩ : ∃ u, hF i = u := ⟨_, rfl⟩
  rw [hu] at hh1s hsg ⊢
  simp -failIfUnchanged (disch := first|omega|(simp<;>omega)|fail) only [go_sem,simprocAttr]
  refine wcond_dec (fun hc => ?_) (fun hc => ?_)
  ·have hlt : i < t.hs.length := by omega
   have ha := lac_at hv d i
   have hb := lkL_bd hv hd (Nat.le_refl _) hlt
   have hws := hv.hs i hlt
   obtain ⟨A, hA⟩ : ∃ A : Nat, cA (lacL t d) i = A := ⟨_, (Int.toNat_of_nonneg hb.1).symm⟩
   have hA' : (lacL t d)[i]?.getD default = A := hA
   rw [hA] at ha hb
   simp -failIfUnchanged (disch := first|omega|(simp<;>omega)|fail) only [go_sem,simprocAttr, hA']
   have dr : ∀ q : Nat, q ≤ 10 → 1000 ≤ dear (q : Int) ∧ dear (q : Int) ≤ 1000 * 282475249 := dear_bd
   have c0 := c178 A (by omega)
   have d0 := dr A (by omega)
   have cp := c178 (A + 1) (by omega)
   have dp := dr (A + 1) (by omega)
   rw [show ((A + 1 : Nat) : Int) = (A : Int) + 1 by omega] at cp dp
   have hwa : hArc G D i = (if 0 < (A : Int) then [⟨G.W + i, sk G, dear ((A : Int) - 1) - dear A, -1, 0⟩] else []) ++ (if (A : Int) < cA t.hs i then [⟨sk G, G.W + i, dear ((A : Int) + 1) - dear A, -1, 0⟩] else []) := by
    unfold hArc
    rw [← hG, ← hD, ← ha]
    rfl
   obtain ⟨m1, hm1⟩ : ∃ m1, dear (A : Int) = m1 := ⟨_, rfl⟩
   obtain ⟨m2, hm2⟩ : ∃ m2, dear ((A : Int) + 1) = m2 := ⟨_, rfl⟩
   rw [hm1] at c0 d0 hwa
   rw [hm2] at cp dp hwa
   have hf1 : G.W + i < n := by omega
   have hf2 : sk G < n := by rw [← hn, hG]; unfold sk nn; omega
   have hcA : (t.hs[i]?.getD default) = cA t.hs i := rfl
   have eF : ((G.W + i : Nat) : Int) = (t.ws.length : Int) + i := by rw [hGW]; omega
   have hb2 : -big ≤ m2 - m1 ∧ m2 - m1 ≤ big := by unfold big; omega
   refine WGd_bool (fun h1 => ?_) (fun h1 => ?_)
   ·have h1' := of_decide_eq_true h1
    rw [if_pos h1'] at hwa
    have cm := c178 (A - 1) (by omega)
    have dm := dr (A - 1) (by omega)
    rw [show ((A - 1 : Nat) : Int) = (A : Int) - 1 by omega] at cm dm
    obtain ⟨m0, hm0⟩ : ∃ m0, dear ((A : Int) - 1) = m0 := ⟨_, rfl⟩
    rw [hm0] at cm dm hwa
    have hb1 : -big ≤ m0 - m1 ∧ m0 - m1 ≤ big := by unfold big; omega
    simp -failIfUnchanged (disch := first|omega|(simp<;>omega)|fail) only [go_sem,simprocAttr, h1]
    refine wcall cm ?_
    simp -failIfUnchanged (disch := first|omega|(simp<;>omega)|fail) only [go_sem,simprocAttr]
    refine wcall c0 ?_
    simp -failIfUnchanged (disch := first|omega|(simp<;>omega)|fail) only [go_sem,simprocAttr]
    refine wcall (c177 t d _) ?_
    simp -failIfUnchanged (disch := first|omega|(simp<;>omega)|fail) only [go_sem,simprocAttr, Int.sub_zero]
    rw [← eF]
    refine wyield (hT _ _ _ _ _ rfl (body1 (a := ⟨G.W + i, sk G, m0 - m1, -1, 0⟩) hsg (by omega) hf1 hf2 hb1 ?_ ?_))
    ·intro fr
     simp -failIfUnchanged (disch := first|omega|(simp<;>omega)|fail) only [go_sem,simprocAttr]
    simp -failIfUnchanged (disch := first|omega|(simp<;>omega)|fail) only [go_sem,simprocAttr, hcA]
    have hsg1 : Sg n (rlx u ⟨G.W + i, sk G, m0 - m1, -1, 0⟩) (k + 10 + 2 * i + 1) := hsg.rlx hf1 hf2 hb1
    obtain ⟨u1, hu1⟩ : ∃ u1, rlx u ⟨G.W + i, sk G, m0 - m1, -1, 0⟩ = u1 := ⟨_, rfl⟩
    rw [hu1] at hsg1 ⊢
    refine WGd_bool (fun h2 => ?_) (fun h2 => ?_)
    ·have h2' := of_decide_eq_true h2
     rw [if_pos h2'] at hwa
     simp -failIfUnchanged (disch := first|omega|(simp<;>omega)|fail) only [go_sem,simprocAttr, h2]
     refine wcall cp ?_
     simp -failIfUnchanged (disch := first|omega|(simp<;>omega)|fail) only [go_sem,simprocAttr]
     refine wcall c0 ?_
     simp -failIfUnchanged (disch := first|omega|(simp<;>omega)|fail) only [go_sem,simprocAttr]
     refine wcall (c177 t d _) ?_
     simp -failIfUnchanged (disch := first|omega|(simp<;>omega)|fail) only [go_sem,simprocAttr, Int.add_zero]
     try rw [← eF]
     refine wyield (hT _ _ _ _ _ rfl (body1x (a := ⟨sk G, G.W + i, m2 - m1, -1, 0⟩) hsg1 (by omega) hf2 hf1 hb2 ?_ ?_))
     ·intro fr
      simp -failIfUnchanged (disch := first|omega|(simp<;>omega)|fail) only [go_sem,simprocAttr]
     simp -failIfUnchanged (disch := first|omega|(simp<;>omega)|fail) only [go_sem,simprocAttr]
     have e : hF (i + 1) = rlx u1 ⟨sk G, G.W + i, m2 - m1, -1, 0⟩ := by rw [hh1s, hwa, ← hu1]; rfl
     refine lpx_norm ⟨i + 1, ⟨by omega, ?_⟩, by omega, ?_, by simp -failIfUnchanged (disch := first|omega|(simp<;>omega)|fail) only [go_sem,simprocAttr]⟩
     ·rw [e]; exact hsg1.rlx hf2 hf1 hb2
     ·rw [e]
      simp -failIfUnchanged (disch := first|omega|(simp<;>omega)|fail) only [go_sem,simprocAttr]
      try simp
    ·have h2' := of_decide_eq_false h2
     rw [if_neg h2'] at hwa
     simp -failIfUnchanged (disch := first|omega|(simp<;>omega)|fail) only [go_sem,simprocAttr, h2]
     have e : hF (i + 1) = u1 := by rw [hh1s, hwa, ← hu1]; rfl
     refine lpx_norm ⟨i + 1, ⟨by omega, ?_⟩, by omega, ?_, by simp -failIfUnchanged (disch := first|omega|(simp<;>omega)|fail) only [go_sem,simprocAttr]⟩
     ·rw [e]; exact hsg1.mono (by omega)
     ·rw [e]
      simp -failIfUnchanged (disch := first|omega|(simp<;>omega)|fail) only [go_sem,simprocAttr]
      try simp
   ·have h1' := of_decide_eq_false h1
    rw [if_neg h1'] at hwa
    simp -failIfUnchanged (disch := first|omega|(simp<;>omega)|fail) only [go_sem,simprocAttr, h1, hcA]
    refine WGd_bool (fun h2 => ?_) (fun h2 => ?_)
    ·have h2' := of_decide_eq_true h2
     rw [if_pos h2'] at hwa
     simp -failIfUnchanged (disch := first|omega|(simp<;>omega)|fail) only [go_sem,simprocAttr, h2]
     refine wcall cp ?_
     simp -failIfUnchanged (disch := first|omega|(simp<;>omega)|fail) only [go_sem,simprocAttr]
     refine wcall c0 ?_
     simp -failIfUnchanged (disch := first|omega|(simp<;>omega)|fail) only [go_sem,simprocAttr]
     refine wcall (c177 t d _) ?_
     simp -failIfUnchanged (disch := first|omega|(simp<;>omega)|fail) only [go_sem,simprocAttr, Int.add_zero]
     try rw [← eF]
     refine wyield (hT _ _ _ _ _ rfl (body1 (a := ⟨sk G, G.W + i, m2 - m1, -1, 0⟩) hsg (by omega) hf2 hf1 hb2 ?_ ?_))
     ·intro fr
      simp -failIfUnchanged (disch := first|omega|(simp<;>omega)|fail) only [go_sem,simprocAttr]
     simp -failIfUnchanged (disch := first|omega|(simp<;>omega)|fail) only [go_sem,simprocAttr]
     have e : hF (i + 1) = rlx u ⟨sk G, G.W + i, m2 - m1, -1, 0⟩ := by rw [hh1s, hwa]; rfl
     refine lpx_norm ⟨i + 1, ⟨by omega, ?_⟩, by omega, ?_, by simp -failIfUnchanged (disch := first|omega|(simp<;>omega)|fail) only [go_sem,simprocAttr]⟩
     ·rw [e]; exact (hsg.rlx hf2 hf1 hb2).mono (by omega)
     ·rw [e]
      simp -failIfUnchanged (disch := first|omega|(simp<;>omega)|fail) only [go_sem,simprocAttr]
      try simp
    ·have h2' := of_decide_eq_false h2
     rw [if_neg h2'] at hwa
     simp -failIfUnchanged (disch := first|omega|(simp<;>omega)|fail) only [go_sem,simprocAttr, h2]
     have e : hF (i + 1) = u := by rw [hh1s, hwa]; rfl
     refine lpx_norm ⟨i + 1, ⟨by omega, ?_⟩, by omega, ?_, by simp -failIfUnchanged (disch := first|omega|(simp<;>omega)|fail) only [go_sem,simprocAttr]⟩
     ·rw [e]; exact hsg.mono (by omega)
     ·rw [e]
      simp -failIfUnchanged (disch := first|omega|(simp<;>omega)|fail) only [go_sem,simprocAttr]
      try simp
  ·-- the ways
   obtain rfl : i = t.hs.length := by omega
   clear hh1s
   simp -failIfUnchanged (disch := first|omega|(simp<;>omega)|fail) only [go_sem,simprocAttr]
   rw [← hu] at hsg ⊢
   obtain ⟨yF, hy1⟩ : ∃ yF : Nat → St, yF = fun i => ((List.range i).flatMap (yArc G D)).foldl rlx (hF t.hs.length) := ⟨_, rfl⟩
   have y1_0 : yF 0 = hF t.hs.length := by rw [hy1]; rfl
   have y1_s : ∀ i, yF (i + 1) = (yArc G D i).foldl rlx (yF i) := fun i => by
    rw [hy1]
    dsimp only
    rw [List.range_succ, List.flatMap_append, List.foldl_append]
    simp
   have hend : rnd (arcs (gr t) D) s = yF t.wy.length := by
    rw [hG]
    unfold rnd arcs
    rw [hGW, hGH, hGN, List.foldl_append, List.foldl_append, hy1, hh1, hw1]
   refine wp_loopX Nat (fun i => ⟨[(1, .yld l), (2, .ptr 4002 0), (6, .int t.ws.length), (180, WS t.wy), (181, .int t.wy.length), (182, .int i)], P1 t d ++ HC n (yF i), [], none⟩)
    (fun i => i ≤ t.wy.length ∧ Sg n (yF i) (k + 22 + 2 * i)) (fun i => t.wy.length - i) 0 ⟨by omega, by rw [y1_0]; exact hsg.mono (by omega)⟩ (by rw [y1_0]; simp -failIfUnchanged (disch := first|omega|(simp<;>omega)|fail) only [go_sem,simprocAttr]; try simp) (fun x => by simp -failIfUnchanged (disch := first|omega|(simp<;>omega)|fail) only [go_sem,simprocAttr]) ?_
   clear hsg hu u
   rintro i ⟨hi, hsg⟩
   have hy1s := y1_s i
   obtain ⟨u, hu⟩ : ∃ u, yF i = u := ⟨_, rfl⟩
   rw [hu] at hy1s hsg ⊢
   simp -failIfUnchanged (disch := first|omega|(simp<;>omega)|fail) only [go_sem,simprocAttr]
   refine wcond_dec (fun hc => ?_) (fun hc => ?_)
   ·have hlt : i < t.wy.length := by omega
    have hw := hv.wy i hlt
    obtain ⟨y, hy⟩ : ∃ y, t.wy[i]?.getD default = y := ⟨_, rfl⟩
    have hy' : wyA t i = y := hy
    rw [hy'] at hw
    obtain ⟨H, hH⟩ : ∃ n : Nat, y.h = n := ⟨y.h.toNat, by omega⟩
    obtain ⟨W, hW⟩ : ∃ n : Nat, y.w = n := ⟨y.w.toNat, by omega⟩
    rw [hH, hW] at hw
    have hgw : G.wn i = W := by rw [← hG]; show (wyA t i).w.toNat = W; rw [hy', hW]; rfl
    have hgh : G.hn i = H := by rw [← hG]; show (wyA t i).h.toNat = H; rw [hy', hH]; rfl
    have eF : ((G.W + H : Nat) : Int) = (t.ws.length : Int) + H := by rw [hGW]; omega
    have hf1 : W < n := by omega
    have hf2 : G.W + H < n := by omega
    have hbig : -big ≤ (0 : Int) ∧ (0 : Int) ≤ big := by unfold big; omega
    have hwa : yArc G D i = ⟨W, G.W + H, 0, i, 1⟩ :: (if 0 < D i then [⟨G.W + H, W, 0, i, -1⟩] else []) := by unfold yArc; rw [hgw, hgh]
    have hdi : d[i]?.getD default = D i := by rw [← hD]
    simp -failIfUnchanged (disch := first|omega|(simp<;>omega)|fail) only [go_sem,simprocAttr, wy_get, hy, hH, hW]
    rw [← eF]
    refine wyield (hT _ _ _ _ _ rfl (body2 (a := ⟨W, G.W + H, 0, i, 1⟩) (p := H) (q := W) hsg (by omega) hf1 hf2 hbig ?_ ?_))
    ·intro fr
     simp -failIfUnchanged (disch := first|omega|(simp<;>omega)|fail) only [go_sem,simprocAttr]
    simp -failIfUnchanged (disch := first|omega|(simp<;>omega)|fail) only [go_sem,simprocAttr, hdi]
    have hsg1 : Sg n (rlx u ⟨W, G.W + H, 0, i, 1⟩) (k + 22 + 2 * i + 1) := hsg.rlx hf1 hf2 hbig
    obtain ⟨u1, hu1⟩ : ∃ u1, rlx u ⟨W, G.W + H, 0, i, 1⟩ = u1 := ⟨_, rfl⟩
    rw [hu1] at hsg1 ⊢
    refine WGd_bool (fun h2 => ?_) (fun h2 => ?_)
    ·have h2' := of_decide_eq_true h2
     rw [if_pos h2'] at hwa
     simp -failIfUnchanged (disch := first|omega|(simp<;>omega)|fail) only [go_sem,simprocAttr, h2]
     rw [← eF]
     refine wyield (hT _ _ _ _ _ rfl (body2x (a := ⟨G.W + H, W, 0, i, -1⟩) (p := H) (q := W) hsg1 (by omega) hf2 hf1 hbig ?_ ?_))
     ·intro fr
      simp -failIfUnchanged (disch := first|omega|(simp<;>omega)|fail) only [go_sem,simprocAttr]
     simp -failIfUnchanged (disch := first|omega|(simp<;>omega)|fail) only [go_sem,simprocAttr]
     have e : yF (i + 1) = rlx u1 ⟨G.W + H, W, 0, i, -1⟩ := by rw [hy1s, hwa, ← hu1]; rfl
     refine lpx_norm ⟨i + 1, ⟨by omega, ?_⟩, by omega, ?_, by simp -failIfUnchanged (disch := first|omega|(simp<;>omega)|fail) only [go_sem,simprocAttr]⟩
     ·rw [e]; exact hsg1.rlx hf2 hf1 hbig
     ·rw [e]
      simp -failIfUnchanged (disch := first|omega|(simp<;>omega)|fail) only [go_sem,simprocAttr]
      try simp
    ·have h2' := of_decide_eq_false h2
     rw [if_neg h2'] at hwa
     simp -failIfUnchanged (disch := first|omega|(simp<;>omega)|fail) only [go_sem,simprocAttr, h2]
     have e : yF (i + 1) = u1 := by rw [hy1s, hwa, ← hu1]; rfl
     refine lpx_norm ⟨i + 1, ⟨by omega, ?_⟩, by omega, ?_, by simp -failIfUnchanged (disch := first|omega|(simp<;>omega)|fail) only [go_sem,simprocAttr]⟩
     ·rw [e]; exact hsg1.mono (by omega)
     ·rw [e]
      simp -failIfUnchanged (disch := first|omega|(simp<;>omega)|fail) only [go_sem,simprocAttr]
      try simp
   ·obtain rfl : i = t.wy.length := by omega
    rw [hD, hend, hu]
    simp -failIfUnchanged (disch := first|omega|(simp<;>omega)|fail) only [go_sem,simprocAttr]
end Go.Proofs.YtpangdaijhiohaaGreatDoor.Bd

set_option linter.unusedSimpArgs false
set_option linter.unusedVariables false
set_option linter.unnecessarySimpa false
namespace Go.Proofs.YtpangdaijhiohaaGreatDoor.Bd
open Go Go.V Mo Bu
def cst (n k : Nat) : List Int := List.replicate k far ++ List.replicate (n - k) 0
theorem cst_set {n k : Nat} (h : k < n) : (cst n k).set k far = cst n (k + 1) := by
 unfold cst
 rw [List.set_append_right _ _ (by simp), show n - k = (n - (k + 1)) + 1 by omega]
 rw [List.replicate_succ (n := n - (k + 1)), List.replicate_succ' (n := k)]
 simp
theorem cst_len {n k : Nat} (h : k ≤ n) : (cst n k).length = n := by simp [cst]; omega
theorem flA_chunks (l : List Ar) : chunks true 5 (flA l) 0 l.length = l.map ARv := by
 have gen : ∀ (l : List Ar) (pre : List AV), chunks true 5 (pre ++ flA l) pre.length l.length = l.map ARv := by
  intro l
  induction l with
  | nil => intro pre; rfl
  | cons a r ih =>
   intro pre
   simp only [List.length_cons, chunks, List.map_cons, flA]
   congr 1
   ·simp [chunk]
   ·have := ih (pre ++ arC a)
    simp only [List.append_assoc, List.length_append, List.length_cons, List.length_nil] at this
    exact this
 exact gen l []
theorem sg_0 (n : Nat) (p : Nat) (hp : p < n) : Sg n (st0 n p) 0 := by
 unfold st0
 refine ⟨by simp, by simp, fun x hx => ?_, fun x hx => ?_, fun x hx => ?_⟩
 ·show _ ≤ cA ((List.replicate n far).set p 0) x
  rw [cA_set (by simpa using hp)]
  split
  ·simp
  ·simp [cA, hx, far]
 ·show cA ((List.replicate n far).set p 0) x ≤ _
  rw [cA_set (by simpa using hp)]
  split
  ·simp [far]
  ·simp [cA, hx]
 ·show (bA (List.replicate n default) x).f < n
  have : (default : Ar).f = 0 := rfl
  simp [bA, hx, this]
  omega
theorem sg_rnd {t : Tn} (hv : Vw t) {d : List Int} (hd : Dd t d) {n : Nat} (hn : nn (gr t) = n) {s : St} {k : Nat} (h : Sg n s k) : Sg n (rnd (arcs (gr t) (cA d)) s) (k + 46) := by
 have hv' := gr_v hv
 have key : ∀ (L : List Ar) (s : St) (k : Nat), (∀ a ∈ L, Arc (gr t) (cA d) a ∧ -big ≤ a.c ∧ a.c ≤ big) → Sg n s k → Sg n (L.foldl rlx s) (k + L.length) := by
  intro L
  induction L with
  | nil => intro s k _ h; exact h
  | cons a L ih =>
   intro s k hL h
   have ha := hL a (by simp)
   have := arc_lt hv' ha.1
   rw [hn] at this
   have h2 := ih (rlx s a) (k + 1) (fun b hb => hL b (by simp [hb])) (h.rlx this.1 this.2 ha.2)
   exact h2.mono (by simp; omega)
 have hlen : (arcs (gr t) (cA d)).length ≤ 46 := by
  have fl : ∀ (f : Nat → List Ar) (m : Nat), (∀ i, (f i).length ≤ 2) → ((List.range m).flatMap f).length ≤ 2 * m := by
   intro f m hf
   induction m with
   | zero => simp
   | succ m ih =>
    rw [List.range_succ, List.flatMap_append, List.length_append]
    have := hf m
    simp only [List.flatMap_cons, List.flatMap_nil, List.append_nil]
    omega
  unfold arcs
  simp only [List.length_append]
  have a1 := fl (wArc (gr t) (cA d)) (gr t).W fun i => by unfold wArc; simp only [List.length_append]; split <;> split <;> simp
  have a2 := fl (hArc (gr t) (cA d)) (gr t).H fun i => by unfold hArc; simp only [List.length_append]; split <;> split <;> simp
  have a3 := fl (yArc (gr t) (cA d)) (gr t).N fun i => by unfold yArc; simp only [List.length_cons]; split <;> simp
  have := hv.n1
  have := hv.n2
  have := hv.n3
  have e1 : (gr t).W = t.ws.length := rfl
  have e2 : (gr t).H = t.hs.length := rfl
  have e3 : (gr t).N = t.wy.length := rfl
  omega
 refine (key _ s k (fun a ha => ?_) h).mono (by omega)
 have hA := mem_arcs.1 ha
 refine ⟨hA, ?_⟩
 have dr : ∀ q : Int, 0 ≤ q → q ≤ 10 → 1000 ≤ dear q ∧ dear q ≤ 1000 * 282475249 := fun q h1 h2 => by
  have := dear_bd q.toNat (by omega)
  rw [Int.toNat_of_nonneg h1] at this
  exact this
 have hlk : ∀ x, x < t.hs.length → 0 ≤ lk (gr t) (cA d) x ∧ lk (gr t) (cA d) x ≤ 9 := fun x hx => by
  rw [← lac_at hv d x]
  exact lkL_bd hv hd (Nat.le_refl _) hx
 unfold big
 cases hA with
 | out w hw h => dsimp only; omega
 | back w hw h => dsimp only; omega
 | sink x hx h =>
  dsimp only
  have h1 := hlk x hx
  have h2 := dr _ (show 0 ≤ lk (gr t) (cA d) x - 1 by omega) (by omega)
  have h3 := dr _ h1.1 (by omega)
  omega
 | rise x hx h =>
  dsimp only
  have h1 := hlk x hx
  have h2 := dr _ (show 0 ≤ lk (gr t) (cA d) x + 1 by omega) (by omega)
  have h3 := dr _ h1.1 (by omega)
  omega
 | up x hx => dsimp only; omega
 | dn x hx h => dsimp only; omega
theorem c150 (t : Tn) (hv : Vw t) (d : List Int) (ho : Ok t d) : CtrN Tryz.prog 150 [TR t d] (.tup [.sl 5 ((path t d).map ARv) .sh, .int (cost t d)]) := by
 have hd : Dd t d := ⟨ho.len, ho.dv⟩
 refine ctrN2_of_wp hmix Tryz.func150 m150 rfl ?_
 unfold v150
 have n1 := hv.n1
 have n2 := hv.n2
 have n3 := hv.n3
 have hl := hd.len
 obtain ⟨n, hn⟩ : ∃ n, nn (gr t) = n := ⟨_, rfl⟩
 have hnn : n = t.ws.length + t.hs.length + 2 := by rw [← hn]; rfl
 have eN : (t.ws.length : Int) + t.hs.length + 2 = n := by omega
 simp -failIfUnchanged (disch := first|omega|(simp<;>omega)|fail) only [go_sem,simprocAttr, eN, flA_zero]
 refine wp_loop' Nat (fun i => ⟨[(0, TR t d), (4, .int n), (5, .ptr 5 0), (6, .ptr 6 0), (30, .int n), (31, .int i)], HC n (cst n i, List.replicate n default), [], none⟩) (fun i => i ≤ n) (fun i => n - i) 0 (by simp) (by simp -failIfUnchanged (disch := first|omega|(simp<;>omega)|fail) only [go_sem,simprocAttr]; simp [cst]) ?_
 intro i hi
 have hi : i ≤ n := hi
 have hcl := cst_len hi
 simp -failIfUnchanged (disch := first|omega|(simp<;>omega)|fail) only [go_sem,simprocAttr]
 refine wcond_dec (fun hc => ?_) (fun hc => ?_)
 ·have hlt : i < n := by omega
  simp -failIfUnchanged (disch := first|omega|(simp<;>omega)|fail) only [go_sem,simprocAttr]
  refine ⟨i + 1, by dsimp only; omega, by dsimp only; omega, ?_⟩
  dsimp only
  rw [← cst_set hlt]
  simp -failIfUnchanged (disch := first|omega|(simp<;>omega)|fail) only [go_sem,simprocAttr]
  try simp [far]
 ·obtain rfl : i = n := by omega
  have hsp : sp (gr t) = i - 2 := by unfold sp; show t.ws.length + t.hs.length = _; omega
  have hsk : sk (gr t) = i - 1 := by unfold sk; show t.ws.length + t.hs.length + 1 = _; omega
  simp -failIfUnchanged (disch := first|omega|(simp<;>omega)|fail) only [go_sem,simprocAttr]
  have hp : sp (gr t) < i := by omega
  obtain ⟨A, hA⟩ : ∃ A, arcs (gr t) (cA d) = A := ⟨_, rfl⟩
  have h0 : ((cst i i).set ((i : Int) - 2).toNat 0, List.replicate i default) = rnds A (st0 i (sp (gr t))) 0 := by
   show _ = st0 i (sp (gr t))
   unfold st0 cst
   rw [show ((i : Int) - 2).toNat = sp (gr t) by omega]
   simp
  have h0' : (cst i i).set ((i : Int) - 2).toNat 0 = (rnds A (st0 i (sp (gr t))) 0).1 := congrArg Prod.fst h0
  have h0'' : List.replicate i default = (rnds A (st0 i (sp (gr t))) 0).2 := congrArg Prod.snd h0
  rw [h0', h0'']
  refine wp_loop' Nat (fun r => ⟨[(0, TR t d), (4, .int i), (5, .ptr 5 0), (6, .ptr 6 0), (42, .int i), (43, .int r)], HC i (rnds A (st0 i (sp (gr t))) r), [], none⟩) (fun r => r ≤ i ∧ Sg i (rnds A (st0 i (sp (gr t))) r) (46 * r)) (fun r => i - r) 0 ⟨by omega, sg_0 i _ hp⟩ (by simp -failIfUnchanged (disch := first|omega|(simp<;>omega)|fail) only [go_sem,simprocAttr]; try simp) ?_
  rintro r ⟨hr, hsg⟩
  have hsucc : rnds A (st0 i (sp (gr t))) (r + 1) = rnd A (rnds A (st0 i (sp (gr t))) r) := rfl
  obtain ⟨u, hu⟩ : ∃ u, rnds A (st0 i (sp (gr t))) r = u := ⟨_, rfl⟩
  rw [hu] at hsucc hsg ⊢
  simp -failIfUnchanged (disch := first|omega|(simp<;>omega)|fail) only [go_sem,simprocAttr]
  refine wcond_dec (fun hc2 => ?_) (fun hc2 => ?_)
  ·simp -failIfUnchanged (disch := first|omega|(simp<;>omega)|fail) only [go_sem,simprocAttr]
   refine wp_range' ?_
   simp -failIfUnchanged (disch := first|omega|(simp<;>omega)|fail) only [go_sem,simprocAttr]
   refine wrange fun l T hT => ?_
   refine (c163 t hv d hd (n := i) (r := r) hn hsg (by omega) l T hT).mono ?_
   rintro _ hp' tk' pd' ⟨rfl, rfl, rfl⟩
   rw [hA, ← hsucc]
   simp -failIfUnchanged (disch := first|omega|(simp<;>omega)|fail) only [go_sem,simprocAttr]
   refine ⟨r + 1, ⟨by omega, ?_⟩, by dsimp only; omega, ?_⟩
   ·rw [hsucc, ← hA]
    exact (sg_rnd hv hd hn hsg).mono (by omega)
   ·simp -failIfUnchanged (disch := first|omega|(simp<;>omega)|fail) only [go_sem,simprocAttr]
    try simp
  ·obtain rfl : r = i := by omega
   have hfin : u = finL t d := by rw [← hu, ← hA, ← hn]; rfl
   have hr1 : ((r : Int) - 1).toNat = sk (gr t) := by omega
   have hl1 := hsg.l1
   have hl2 := hsg.l2
   have hco : cost t d = u.1[sk (gr t)]?.getD default := by rw [hfin]; rfl
   simp -failIfUnchanged (disch := first|omega|(simp<;>omega)|fail) only [go_sem,simprocAttr, hr1]
   rw [← hco]
   refine wcond_dec (fun hc3 => ?_) (fun hc3 => ?_)
   ·obtain ⟨hch, hcl, _⟩ := path_ch hv ho (by unfold far; exact hc3)
    rw [← hfin] at hch
    obtain ⟨q, hq⟩ : ∃ q, path t d = q := ⟨_, rfl⟩
    rw [hq] at hch hcl ⊢
    simp -failIfUnchanged (disch := first|omega|(simp<;>omega)|fail) only [go_sem,simprocAttr]
    refine wp_loop' (Nat × Nat) (fun x => ⟨[(4, .int r), (5, .ptr 5 0), (6, .ptr 6 0), (9, .gsl 3 0 x.1 5 x.1 true), (10, .int x.2)], (K 3 0 x.1, ⟨flA (q.take x.1), false⟩) :: HC r u, [], none⟩)
     (fun x => x.1 ≤ q.length ∧ x.2 < r ∧ Ch u.2 (sp (gr t)) x.2 (q.drop x.1)) (fun x => q.length - x.1) (0, sk (gr t)) ⟨by simp, by dsimp only; omega, by simpa using hch⟩ (by simp -failIfUnchanged (disch := first|omega|(simp<;>omega)|fail) only [go_sem,simprocAttr]; exact ⟨by omega, rfl⟩) ?_
    rintro ⟨j, x⟩ ⟨hj, hx, hc⟩
    dsimp only at hj hx hc ⊢
    have hfl := flA_len u.2
    simp -failIfUnchanged (disch := first|omega|(simp<;>omega)|fail) only [go_sem,simprocAttr]
    refine wcond_dec (fun h => ?_) (fun h => ?_)
    ·have hne : x ≠ sp (gr t) := by omega
     obtain ⟨l', e1, e2⟩ : ∃ l', q.drop j = bA u.2 x :: l' ∧ Ch u.2 (sp (gr t)) (bA u.2 x).f l' := by
      generalize q.drop j = L at hc
      cases hc with
      | nil => exact absurd rfl hne
      | cons h k => exact ⟨_, rfl, k⟩
     have hjl : j < q.length := by
      rcases Nat.lt_or_ge j q.length with h1 | h1
      ·exact h1
      ·rw [List.drop_eq_nil_of_le h1] at e1
       cases e1
     have e3 : q.drop (j + 1) = l' := by
      rw [← List.drop_drop, e1]
      rfl
     have e4 : q.take (j + 1) = q.take j ++ [bA u.2 x] := by
      rw [List.take_add_one]
      congr 1
      have : q[j]? = (q.drop j)[0]? := by simp
      rw [this, e1]
      rfl
     have htl : (flA (q.take j)).length = j * 5 := by rw [flA_len, List.length_take, Nat.min_eq_left (by omega)]
     obtain ⟨a, ha⟩ : ∃ a, bA u.2 x = a := ⟨_, rfl⟩
     have hcu : chunk true 5 (flA u.2) (x * 5) = ARv a := by rw [← ha]; exact flA_chunk _ _ (by omega)
     have hcu2 : List.take 5 (List.drop (x * 5) (flA u.2)) = arC a := by simpa [chunk] using hcu
     have hge : (flA u.2)[x * 5]?.getD .und = .int a.f := by rw [← ha]; exact flA_get _ _ (by omega)
     have hnd := hsg.nd x hx
     rw [ha] at e1 e2 e4 hnd
     simp -failIfUnchanged (disch := first|omega|(simp<;>omega)|fail) only [go_sem,simprocAttr, hcu2, hge]
     refine ⟨by rw [List.length_take, Nat.min_eq_left (by omega)], ⟨(j + 1, a.f), ⟨by dsimp only; omega, hnd, by dsimp only; rw [e3]; exact e2⟩, by dsimp only; omega, ?_⟩⟩
     dsimp only
     have e5 : flA (q.take j) ++ arC a = flA (q.take (j + 1)) := by rw [e4, flA_app]; simp [flA]
     rw [e5]
     simp -failIfUnchanged (disch := first|omega|(simp<;>omega)|fail) only [go_sem,simprocAttr]
     try simp
    ·have hx2 : x = sp (gr t) := by omega
     have hjq : j = q.length := by
      subst hx2
      rcases Nat.lt_or_ge j q.length with h1 | h1
      ·exfalso
       have e1 : q.drop j ≠ [] := by simp; omega
       generalize q.drop j = L at hc e1
       cases hc with
       | nil => exact e1 rfl
       | cons h k => exact h rfl
      ·omega
     subst hjq
     rw [List.take_length]
     simp -failIfUnchanged (disch := first|omega|(simp<;>omega)|fail) only [go_sem,simprocAttr, hr1, ← hco]
     refine ⟨.inr (.inr ⟨3, 0, q.length, 5, q.length, true, flA q, rfl, by simp [getB_cons], flA_int q, by rw [flA_len]; exact Nat.le_refl _, .inl rfl, ?_⟩), .inl ⟨_, rfl, rfl⟩⟩
     rw [flA_chunks]
   ·have hp0 : path t d = [] := by unfold path; rw [if_neg (by unfold far; exact hc3)]
    rw [hp0]
    simp -failIfUnchanged (disch := first|omega|(simp<;>omega)|fail) only [go_sem,simprocAttr, hr1, ← hco]
    exact ⟨.inr (.inr ⟨3, 0, 0, 5, 0, true, [], rfl, by simp [getB_cons], by simp, by simp, .inl rfl, rfl⟩), .inl ⟨_, rfl, rfl⟩⟩
end Go.Proofs.YtpangdaijhiohaaGreatDoor.Bd

set_option linter.unusedSimpArgs false
set_option linter.unusedVariables false
set_option linter.unnecessarySimpa false
namespace Go.Proofs.YtpangdaijhiohaaGreatDoor.Bd
open Go Go.V Mo Bu
theorem apL_app (l k : List Ar) : ∀ d, apL d (l ++ k) = apL (apL d l) k := by
 induction l with
 | nil => intro d; rfl
 | cons a l ih => intro d; simp only [List.cons_append, apL]; exact ih _
theorem dl_len {l : List Ar} (i : Nat) (h : ∀ a ∈ l, -1 ≤ a.m ∧ a.m ≤ 1) : -(l.length : Int) ≤ dl l i ∧ dl l i ≤ l.length := by
 induction l with
 | nil => simp [dl]
 | cons a l ih =>
  have h1 := h a (by simp)
  have h2 := ih fun b hb => h b (by simp [hb])
  simp only [dl, List.length_cons]
  split <;> omega
theorem dd_le {t : Tn} {d : List Int} (hv : Vw t) (hd : Dd t d) {i : Nat} (hi : i < t.wy.length) : 0 ≤ cA d i ∧ cA d i ≤ 9 := by
 have hw := hv.wy i hi
 have h1 := lkL_bd hv hd (show i ≤ t.wy.length by omega) (x := (wyA t i).h.toNat) (by omega)
 have h2 := lkL_bd hv hd (show i + 1 ≤ t.wy.length by omega) (x := (wyA t i).h.toNat) (by omega)
 have h3 := hd.dv.nn i hi
 have hl := lkL_len t d i
 simp only [lkL] at h2
 rw [cA_set (by omega), if_pos rfl] at h2
 omega
theorem c127 (t : Tn) (hv : Vw t) : Ctr Tryz.prog 127 [TB t, .agg [.int (-1), .int (-1), .int 0]] (IS (fairL t)) := by
 refine ctr_of_wp hmix Tryz.func127 m127 rfl ?_
 unfold v127
 have n1 := hv.n1
 have n2 := hv.n2
 have n3 := hv.n3
 simp -failIfUnchanged (disch := first|omega|(simp<;>omega)|fail) only [go_sem,simprocAttr]
 refine wp_loop' (List Int × Nat) (fun x => ⟨[(5, .ptr 17 0)], [(17, ⟨[IS t.hs, IS t.ws, WS t.wy, .int (-1), .int (-1), .int 0, .bsl 15 0 1 t.wy.length false], false⟩), (15, ⟨x.1.map .int, false⟩)], [], none⟩)
  (fun x => Ok t x.1 ∧ lackN t x.1 + 1 ≤ x.2 ∧ fairF t x.2 x.1 = fairL t) (fun x => lackN t x.1) (List.replicate t.wy.length 0, 60) ⟨ok_0 hv, by have := lackN_54 hv; dsimp only; omega, rfl⟩ (by simp -failIfUnchanged (disch := first|omega|(simp<;>omega)|fail) only [go_sem,simprocAttr]; try simp) ?_
 rintro ⟨d, f⟩ ⟨ho, hf, he⟩
 dsimp only at ho hf he ⊢
 have hl := ho.len
 have hd : Dd t d := ⟨ho.len, ho.dv⟩
 have hle : (t.wy.length ≤ d.length) = True := eq_true (by omega)
 simp -failIfUnchanged (disch := first|omega|(simp<;>omega)|fail) only [go_sem,simprocAttr, chunks_ints, hle]
 refine wcallbN (c150 t hv d ho) ?_
 simp -failIfUnchanged (disch := first|omega|(simp<;>omega)|fail) only [go_sem,simprocAttr, chunks_ints, hle]
 refine wcond_dec (fun hc => ?_) (fun hc => ?_)
 ·have e : fairL t = d := by
   rw [← he]
   cases f with
   | zero => omega
   | succ f => rw [fairF, if_pos hc]
  rw [e]
  simp -failIfUnchanged (disch := first|omega|(simp<;>omega)|fail) only [go_sem,simprocAttr, chunks_ints, hle]
  try simp
 ·have hneg : cost t d < 0 := by omega
  obtain ⟨p, hp⟩ : ∃ p, path t d = p := ⟨_, rfl⟩
  have hpc := path_ch hv ho (by unfold far; omega)
  have hst := ok_step hv ho hneg
  have hlk := lackN_lt hv ho hneg
  have hfs := fairF_step hv ho f hf hneg
  rw [hp] at hpc hst hlk hfs ⊢
  obtain ⟨_, hp14, harc⟩ := hpc
  simp -failIfUnchanged (disch := first|omega|(simp<;>omega)|fail) only [go_sem,simprocAttr]
  refine wp_loop' Nat (fun j => ⟨[(5, .ptr 17 0), (29, .sl 5 (p.map ARv) .sh), (30, .int p.length), (31, .int j)], [(17, ⟨[IS t.hs, IS t.ws, WS t.wy, .int (-1), .int (-1), .int 0, .bsl 15 0 1 t.wy.length false], false⟩), (15, ⟨(apL d (p.take j)).map .int, false⟩)], [], none⟩)
   (fun j => j ≤ p.length) (fun j => p.length - j) 0 (by simp) (by simp -failIfUnchanged (disch := first|omega|(simp<;>omega)|fail) only [go_sem,simprocAttr]; simp [apL]) ?_
  intro j hj
  have hj : j ≤ p.length := hj
  simp -failIfUnchanged (disch := first|omega|(simp<;>omega)|fail) only [go_sem,simprocAttr]
  refine wcond_dec (fun h => ?_) (fun h => ?_)
  ·have hjl : j < p.length := by omega
   obtain ⟨a, ha⟩ : ∃ a, p[j]?.getD default = a := ⟨_, rfl⟩
   have hap : p[j]? = some a := by rw [List.getElem?_eq_getElem hjl] at ha ⊢; rw [← ha]; rfl
   have ham : a ∈ p := List.mem_of_getElem? hap
   have hay := arc_y hl (harc a ham)
   have e4 : p.take (j + 1) = p.take j ++ [a] := by rw [List.take_add_one, hap]; rfl
   have e5 : apL d (p.take (j + 1)) = if 0 ≤ a.y then (apL d (p.take j)).set a.y.toNat (cA (apL d (p.take j)) a.y.toNat + a.m) else apL d (p.take j) := by rw [e4, apL_app]; rfl
   have hdl : (apL d (p.take j)).length = t.wy.length := by rw [apL_len]; exact hl
   have hpa : ∀ b ∈ p.take j, Arc (gr t) (cA d) b := fun b hb => harc b (List.mem_of_mem_take hb)
   have hbd : ∀ i, i < t.wy.length → -100 ≤ cA (apL d (p.take j)) i ∧ cA (apL d (p.take j)) i ≤ 100 := fun i hi => by
    rw [apL_at _ _ (fun b hb => (arc_y hl (hpa b hb)).1) (fun b hb => (arc_y hl (hpa b hb)).2.1)]
    have h1 := dd_le hv hd hi
    have h2 := dl_len i (l := p.take j) fun b hb => (arc_y hl (hpa b hb)).2.2
    have h3 : (p.take j).length ≤ 14 := by rw [List.length_take]; omega
    omega
   obtain ⟨E, hE⟩ : ∃ E, apL d (p.take j) = E := ⟨_, rfl⟩
   rw [hE] at e5 hdl hbd ⊢
   simp -failIfUnchanged (disch := first|omega|(simp<;>omega)|fail) only [go_sem,simprocAttr, ha]
   refine wcond_dec (fun h0 => ?_) (fun h0 => ?_)
   ·obtain ⟨Y, hY⟩ : ∃ Y : Nat, a.y = Y := ⟨a.y.toNat, by omega⟩
    have hb := hbd Y (by omega)
    unfold cA at hb
    rw [if_pos h0, hY, Int.toNat_natCast] at e5
    simp -failIfUnchanged (disch := first|omega|(simp<;>omega)|fail) only [go_sem,simprocAttr, hY]
    refine ⟨j + 1, by dsimp only; omega, by dsimp only; omega, ?_⟩
    dsimp only
    rw [e5]
    simp -failIfUnchanged (disch := first|omega|(simp<;>omega)|fail) only [go_sem,simprocAttr]
    try simp
   ·rw [if_neg h0] at e5
    simp -failIfUnchanged (disch := first|omega|(simp<;>omega)|fail) only [go_sem,simprocAttr]
    refine ⟨j + 1, by dsimp only; omega, by dsimp only; omega, ?_⟩
    dsimp only
    rw [e5]
    simp -failIfUnchanged (disch := first|omega|(simp<;>omega)|fail) only [go_sem,simprocAttr]
    try simp
  ·obtain rfl : j = p.length := by omega
   rw [List.take_length]
   simp -failIfUnchanged (disch := first|omega|(simp<;>omega)|fail) only [go_sem,simprocAttr]
   refine ⟨(apL d p, f), ⟨hst.1, by dsimp only; omega, by dsimp only; rw [← hfs.1]; exact he⟩, by dsimp only; omega, ?_⟩
   simp -failIfUnchanged (disch := first|omega|(simp<;>omega)|fail) only [go_sem,simprocAttr]
   try simp
end Go.Proofs.YtpangdaijhiohaaGreatDoor.Bd

set_option linter.unusedSimpArgs false
set_option linter.unusedVariables false
set_option linter.unnecessarySimpa false
namespace Go.Proofs.YtpangdaijhiohaaGreatDoor.Bd
open Go Go.V Mo Go.RowKit
set_option maxRecDepth 100000 in
theorem k77_0 (w : World) : Calls Tryz.prog 188 #[.int .u64 0] w fun e w' => e = .returned (.int .i64 0) ∧ w' = w := by
 go_enter Tryz.func188, Tryz.ntmps188
 go_wp2
 go_ret
 refine ⟨?_, rfl⟩
 first | kernel_rfl | decide
set_option maxRecDepth 100000 in
theorem k65_0 (w : World) : Calls Tryz.prog 165 #[.int .u64 0] w fun e w' => e = .returned (.int .i64 0) ∧ w' = w := by
 go_enter Tryz.func165, Tryz.ntmps165
 go_wp2_with fail
 go_call (k77_0 w) as e w' ⟨he, hb⟩
 subst he
 subst hb
 go_wp2
 go_ret
 exact ⟨rfl, rfl⟩
set_option maxRecDepth 100000 in
theorem k77_1 (w : World) : Calls Tryz.prog 188 #[.int .u64 1] w fun e w' => e = .returned (.int .i64 1) ∧ w' = w := by
 go_enter Tryz.func188, Tryz.ntmps188
 go_wp2
 go_ret
 refine ⟨?_, rfl⟩
 first | kernel_rfl | decide
set_option maxRecDepth 100000 in
theorem k65_1 (w : World) : Calls Tryz.prog 165 #[.int .u64 1] w fun e w' => e = .returned (.int .i64 1) ∧ w' = w := by
 go_enter Tryz.func165, Tryz.ntmps165
 go_wp2_with fail
 go_call (k77_1 w) as e w' ⟨he, hb⟩
 subst he
 subst hb
 go_wp2
 go_ret
 exact ⟨rfl, rfl⟩
set_option maxRecDepth 100000 in
theorem k77_2 (w : World) : Calls Tryz.prog 188 #[.int .u64 2] w fun e w' => e = .returned (.int .i64 2) ∧ w' = w := by
 go_enter Tryz.func188, Tryz.ntmps188
 go_wp2
 go_ret
 refine ⟨?_, rfl⟩
 first | kernel_rfl | decide
set_option maxRecDepth 100000 in
theorem k65_2 (w : World) : Calls Tryz.prog 165 #[.int .u64 2] w fun e w' => e = .returned (.int .i64 2) ∧ w' = w := by
 go_enter Tryz.func165, Tryz.ntmps165
 go_wp2_with fail
 go_call (k77_2 w) as e w' ⟨he, hb⟩
 subst he
 subst hb
 go_wp2
 go_ret
 exact ⟨rfl, rfl⟩
set_option maxRecDepth 100000 in
theorem k77_3 (w : World) : Calls Tryz.prog 188 #[.int .u64 3] w fun e w' => e = .returned (.int .i64 2) ∧ w' = w := by
 go_enter Tryz.func188, Tryz.ntmps188
 go_wp2
 go_ret
 refine ⟨?_, rfl⟩
 first | kernel_rfl | decide
set_option maxRecDepth 100000 in
theorem k65_3 (w : World) : Calls Tryz.prog 165 #[.int .u64 3] w fun e w' => e = .returned (.int .i64 2) ∧ w' = w := by
 go_enter Tryz.func165, Tryz.ntmps165
 go_wp2_with fail
 go_call (k77_3 w) as e w' ⟨he, hb⟩
 subst he
 subst hb
 go_wp2
 go_ret
 exact ⟨rfl, rfl⟩
set_option maxRecDepth 100000 in
theorem k77_4 (w : World) : Calls Tryz.prog 188 #[.int .u64 4] w fun e w' => e = .returned (.int .i64 3) ∧ w' = w := by
 go_enter Tryz.func188, Tryz.ntmps188
 go_wp2
 go_ret
 refine ⟨?_, rfl⟩
 first | kernel_rfl | decide
set_option maxRecDepth 100000 in
theorem k65_4 (w : World) : Calls Tryz.prog 165 #[.int .u64 4] w fun e w' => e = .returned (.int .i64 3) ∧ w' = w := by
 go_enter Tryz.func165, Tryz.ntmps165
 go_wp2_with fail
 go_call (k77_4 w) as e w' ⟨he, hb⟩
 subst he
 subst hb
 go_wp2
 go_ret
 exact ⟨rfl, rfl⟩
set_option maxRecDepth 100000 in
theorem k77_5 (w : World) : Calls Tryz.prog 188 #[.int .u64 5] w fun e w' => e = .returned (.int .i64 3) ∧ w' = w := by
 go_enter Tryz.func188, Tryz.ntmps188
 go_wp2
 go_ret
 refine ⟨?_, rfl⟩
 first | kernel_rfl | decide
set_option maxRecDepth 100000 in
theorem k65_5 (w : World) : Calls Tryz.prog 165 #[.int .u64 5] w fun e w' => e = .returned (.int .i64 3) ∧ w' = w := by
 go_enter Tryz.func165, Tryz.ntmps165
 go_wp2_with fail
 go_call (k77_5 w) as e w' ⟨he, hb⟩
 subst he
 subst hb
 go_wp2
 go_ret
 exact ⟨rfl, rfl⟩
set_option maxRecDepth 100000 in
theorem k77_6 (w : World) : Calls Tryz.prog 188 #[.int .u64 6] w fun e w' => e = .returned (.int .i64 3) ∧ w' = w := by
 go_enter Tryz.func188, Tryz.ntmps188
 go_wp2
 go_ret
 refine ⟨?_, rfl⟩
 first | kernel_rfl | decide
set_option maxRecDepth 100000 in
theorem k65_6 (w : World) : Calls Tryz.prog 165 #[.int .u64 6] w fun e w' => e = .returned (.int .i64 3) ∧ w' = w := by
 go_enter Tryz.func165, Tryz.ntmps165
 go_wp2_with fail
 go_call (k77_6 w) as e w' ⟨he, hb⟩
 subst he
 subst hb
 go_wp2
 go_ret
 exact ⟨rfl, rfl⟩
theorem c65_of {k : Nat} {r : Int} (hk : (BitVec.ofInt 64 k).toNat = k) (h : ∀ w, Calls Tryz.prog 165 #[.int .u64 k] w fun e w' => e = .returned (.int .i64 r) ∧ w' = w) : Ctr Tryz.prog 165 [.un (BitVec.ofInt 64 k)] (.int r) := by
 refine ⟨by kernel_rfl, fun C w vs hC hr => ?_⟩
 obtain ⟨h1, h2⟩ := hr
 have h3 := h2 0 _ rfl
 obtain ⟨v, rfl⟩ : ∃ v, vs = #[v] := by
  obtain ⟨l⟩ := vs
  match l, h1 with
  | [v], _ => exact ⟨v, rfl⟩
 have h4 : v = .int .u64 k := by
  have h5 : Rep0 C w v (.un (BitVec.ofInt 64 k)) := h3
  generalize hb : BitVec.ofInt 64 (k : Int) = b at h5 hk
  cases h5
  rw [hk]
 subst h4
 refine (h w).mono fun e w' he => ?_
 obtain ⟨rfl, rfl⟩ := he
 exact ⟨_, C, rfl, .refl _ _, hC.1, fun _ _ x => x, fun _ _ x => .inl x, .int _⟩
theorem c165 (k : Nat) (hk : k ≤ 6) : ∃ r, Ctr Tryz.prog 165 [.un (BitVec.ofInt 64 k)] (.int r) := by
 rcases k with _ | _ | _ | _ | _ | _ | _ | k
 ·exact ⟨_, c65_of (by decide) k65_0⟩
 ·exact ⟨_, c65_of (by decide) k65_1⟩
 ·exact ⟨_, c65_of (by decide) k65_2⟩
 ·exact ⟨_, c65_of (by decide) k65_3⟩
 ·exact ⟨_, c65_of (by decide) k65_4⟩
 ·exact ⟨_, c65_of (by decide) k65_5⟩
 ·exact ⟨_, c65_of (by decide) k65_6⟩
 ·omega
end Go.Proofs.YtpangdaijhiohaaGreatDoor.Bd

set_option linter.unusedSimpArgs false
set_option linter.unusedVariables false
set_option linter.unnecessarySimpa false
namespace Go.Proofs.YtpangdaijhiohaaGreatDoor.Bd
open Go Go.V Mo Bu
theorem c152 (a b : Int) : Ctr Tryz.prog 152 [.int a, .int b] (.int (cmpI b a)) := by
 refine ctr_of_wp hmix Tryz.func152 m152 rfl ?_
 unfold v152
 simp -failIfUnchanged (disch := first|omega|(simp<;>omega)|fail) only [go_sem,simprocAttr]
 refine wcall (c148 _ _) ?_
 simp -failIfUnchanged (disch := first|omega|(simp<;>omega)|fail) only [go_sem,simprocAttr]
abbrev vL (r : Nat → Int) (d : List Nat) : List Int := d.map r
theorem vL_get {r : Nat → Int} {d : List Nat} {i : Nat} (h : i < d.length) : (vL r d)[i]?.getD default = r (nth d i) := by
 simp [vL, nth, h]
theorem vL_set {r : Nat → Int} {d : List Nat} {i x : Nat} : (vL r d).set i (r x) = vL r (d.set i x) := by simp only [vL, List.map_set]
def srtD (l : List Int) : List Int := vL (cA l) (srtN (cA l) l.length)
theorem vL_range (l : List Int) : vL (cA l) (List.range l.length) = l := by
 apply List.ext_getElem (by simp [vL])
 intro i h1 h2
 simp only [vL, List.getElem_map, List.getElem_range, cA]
 simp [h2]
end Go.Proofs.YtpangdaijhiohaaGreatDoor.Bd

set_option linter.unusedSimpArgs false
set_option linter.unusedVariables false
set_option linter.unnecessarySimpa false
namespace Go.Proofs.YtpangdaijhiohaaGreatDoor.Bd
open Go Go.V Mo Bu
theorem fd {t : Tn} (hv : Vw t) : Dd t (fairL t) := ⟨(fairL_ok hv).1.len, (fairL_ok hv).1.dv⟩
theorem c76 (t : Tn) (hv : Vw t) : Ctr Tryz.prog 76 [TB t] (IS (srtD (lacL t (fairL t)))) := by
 refine ctr_of_wp hmix Tryz.func76 m76 rfl ?_
 unfold v76
 have n1 := hv.n1
 have n2 := hv.n2
 have n3 := hv.n3
 have hd := fd hv
 have hl := hd.len
 simp -failIfUnchanged (disch := first|omega|(simp<;>omega)|fail) only [go_sem,simprocAttr]
 refine wopsB [] ?_
 simp -failIfUnchanged (disch := first|omega|(simp<;>omega)|fail) only [go_sem,simprocAttr]
 refine wcall (c127 t hv) ?_
 simp -failIfUnchanged (disch := first|omega|(simp<;>omega)|fail) only [go_sem,simprocAttr]
 obtain ⟨d, hdd⟩ : ∃ d, fairL t = d := ⟨_, rfl⟩
 rw [hdd] at hd hl ⊢
 refine wcall_in hmix Tryz.func126 (m126i (b1L t) (b2L t)) rfl ?_
 unfold v126i
 simp -failIfUnchanged (disch := first|omega|(simp<;>omega)|fail) only [go_sem,simprocAttr]
 refine wcalls (c149 1 t.hs (by omega)) ?_
 simp -failIfUnchanged (disch := first|omega|(simp<;>omega)|fail) only [go_sem,simprocAttr, gsB, List.map_cons, List.map_nil, List.cons_append, List.nil_append]
 refine ⟨by simp, wcalls (c149 2 t.ws (by omega)) ?_⟩
 simp -failIfUnchanged (disch := first|omega|(simp<;>omega)|fail) only [go_sem,simprocAttr, gsB, List.map_cons, List.map_nil, List.cons_append, List.nil_append]
 refine wp_loopX Nat (fun k => ⟨[(2, .ptr 6002 0), (4, .gsl 1 0 0 1 t.hs.length false), (5, .gsl 2 0 0 1 t.ws.length false), (14, IS d), (15, .int d.length), (16, .int k)], [(6002, ⟨[IS t.hs, IS t.ws, WS t.wy], false⟩), (K 1 0 0, ⟨(lkL t d k).map .int, false⟩), (K 2 0 0, ⟨(hzL t d k).map .int, false⟩), (1, ⟨[IS t.hs, IS t.ws, WS t.wy], false⟩)], [], none⟩) (fun k => k ≤ d.length) (fun k => d.length - k) 0 (by simp) (by simp -failIfUnchanged (disch := first|omega|(simp<;>omega)|fail) only [go_sem,simprocAttr]; simp [lkL, hzL]) (fun k => by simp -failIfUnchanged (disch := first|omega|(simp<;>omega)|fail) only [go_sem,simprocAttr]) ?_
 intro k hk
 have hk : k ≤ d.length := hk
 simp -failIfUnchanged (disch := first|omega|(simp<;>omega)|fail) only [go_sem,simprocAttr]
 refine wcond_dec (fun hc => ?_) (fun hc => ?_)
 ·have hlt : k < t.wy.length := by omega
  have hw := hv.wy k hlt
  have h1 := lkL_len t d k
  have h2 := hzL_len t d k
  obtain ⟨y, hy⟩ : ∃ y, t.wy[k]?.getD default = y := ⟨_, rfl⟩
  have hy' : wyA t k = y := hy
  rw [hy'] at hw
  obtain ⟨H, hH⟩ : ∃ n : Nat, y.h = n := ⟨y.h.toNat, by omega⟩
  obtain ⟨W, hW⟩ : ∃ n : Nat, y.w = n := ⟨y.w.toNat, by omega⟩
  rw [hH, hW] at hw
  have h3 := lkL_bd hv hd (show k + 1 ≤ t.wy.length by omega) (x := H) (by omega)
  have h4 := hzL_bd hv hd (show k + 1 ≤ t.wy.length by omega) (x := W) (by omega)
  have e1 : lkL t d (k + 1) = (lkL t d k).set H (cA (lkL t d k) H - cA d k) := by simp only [lkL, hy', hH, Int.toNat_natCast]
  have e2 : hzL t d (k + 1) = (hzL t d k).set W (cA (hzL t d k) W - cA d k) := by simp only [hzL, hy', hW, Int.toNat_natCast]
  rw [e1, cA_set (by omega), if_pos rfl] at h3
  rw [e2, cA_set (by omega), if_pos rfl] at h4
  unfold cA at h3 h4
  simp -failIfUnchanged (disch := first|omega|(simp<;>omega)|fail) only [go_sem,simprocAttr, wy_get, hy, hH, hW]
  refine lpx_norm ⟨k + 1, by omega, by omega, ?_, by simp -failIfUnchanged (disch := first|omega|(simp<;>omega)|fail) only [go_sem,simprocAttr]⟩
  rw [e1, e2]
  simp -failIfUnchanged (disch := first|omega|(simp<;>omega)|fail) only [go_sem,simprocAttr]
  try simp
 ·obtain rfl : k = d.length := by omega
  obtain ⟨xs, hxs⟩ : ∃ xs, lkL t d d.length = xs := ⟨_, rfl⟩
  have hxs' : lacL t d = xs := by rw [← hxs, hl]
  have hxl : xs.length = t.hs.length := by rw [← hxs]; exact lkL_len _ _ _
  rw [hxs, hxs', ← hxl]
  rw [← hxl] at n1
  simp -failIfUnchanged (disch := first|omega|(simp<;>omega)|fail) only [go_sem,simprocAttr]
  refine Or.inr ⟨rfl, rfl, ?_⟩
  simp -failIfUnchanged (disch := first|omega|(simp<;>omega)|fail) only [go_sem,simprocAttr]
  refine wcall_in hmix Tryz.func128 m128 rfl ?_
  unfold v128
  simp -failIfUnchanged (disch := first|omega|(simp<;>omega)|fail) only [go_sem,simprocAttr]
  refine wcall_in hmix Tryz.func151 m151 rfl ?_
  unfold v151
  simp -failIfUnchanged (disch := first|omega|(simp<;>omega)|fail) only [go_sem,simprocAttr]
  obtain ⟨bl, hbl⟩ := c165 xs.length (by omega)
  refine wcall hbl ?_
  simp -failIfUnchanged (disch := first|omega|(simp<;>omega)|fail) only [go_sem,simprocAttr]
  refine wcall_in hmix Tryz.func164 m164 rfl ?_
  unfold v164
  simp -failIfUnchanged (disch := first|omega|(simp<;>omega)|fail) only [go_sem,simprocAttr]
  refine wp_loopX Unit (fun _ => ⟨[(0, .gsl 1 0 0 1 xs.length false), (1, .int 0), (2, .int xs.length), (3, .int bl), (4, .clo 152 [] []), (10, .bool true), (11, .bool true)], [(K 1 0 0, ⟨xs.map .int, false⟩)], [], none⟩) (fun _ => True) (fun _ => 0) () trivial (by simp -failIfUnchanged (disch := first|omega|(simp<;>omega)|fail) only [go_sem,simprocAttr]; try simp) (fun _ => by simp -failIfUnchanged (disch := first|omega|(simp<;>omega)|fail) only [go_sem,simprocAttr]) ?_
  intro _ _
  simp -failIfUnchanged (disch := first|omega|(simp<;>omega)|fail) only [go_sem,simprocAttr]
  refine wcond_dec (fun hz => ?_) (fun hz => by omega)
  simp -failIfUnchanged (disch := first|omega|(simp<;>omega)|fail) only [go_sem,simprocAttr]
  refine wcall_in hmix Tryz.func179 m179 rfl ?_
  unfold v179
  obtain ⟨r, hr⟩ : ∃ r, cA xs = r := ⟨_, rfl⟩
  obtain ⟨n, hn⟩ : ∃ n, xs.length = n := ⟨_, rfl⟩
  obtain ⟨D0, hD0⟩ : ∃ D0, List.range n = D0 := ⟨_, rfl⟩
  have hD0l : D0.length = n := by rw [← hD0, List.length_range]
  have hx0 : xs = vL r (srt r D0 0) := by
   show xs = vL r D0
   rw [← hD0, ← hn, ← hr, vL_range]
  have hgoal : srtD xs = vL r (srtN r n) := by unfold srtD; rw [hr, hn]
  rw [hgoal, hn, hx0]
  rw [hn] at n1
  clear hx0 hgoal
  simp -failIfUnchanged (disch := first|omega|(simp<;>omega)|fail) only [go_sem,simprocAttr]
  refine wp_loopX Nat (fun k => ⟨[(0, .gsl 1 0 0 1 n false), (1, .int 0), (2, .int n), (3, .clo 152 [] []), (8, .int (k + 1 : Nat))], [(K 1 0 0, ⟨(vL r (srt r D0 k)).map .int, false⟩)], [], none⟩) (fun k => k < n ∨ k = 0) (fun k => n - k) 0 (.inr rfl) (by simp -failIfUnchanged (disch := first|omega|(simp<;>omega)|fail) only [go_sem,simprocAttr]; try simp) (fun _ => by simp -failIfUnchanged (disch := first|omega|(simp<;>omega)|fail) only [go_sem,simprocAttr]) ?_
  intro k hk
  have hk : k < n ∨ k = 0 := hk
  have hdl : (vL r (srt r D0 k)).length = n := by rw [List.length_map, srt_len, hD0l]
  simp -failIfUnchanged (disch := first|omega|(simp<;>omega)|fail) only [go_sem,simprocAttr]
  refine wcond_dec (fun hx => ?_) (fun hx => ?_)
  ·have hk1 : k + 1 < n := by omega
   simp -failIfUnchanged (disch := first|omega|(simp<;>omega)|fail) only [go_sem,simprocAttr]
   refine wp_loopX (Nat × List Nat) (fun x => ⟨[(0, .gsl 1 0 0 1 n false), (1, .int 0), (2, .int n), (3, .clo 152 [] []), (8, .int (k + 1 : Nat)), (9, .int (x.1 : Nat))], [(K 1 0 0, ⟨(vL r x.2).map .int, false⟩)], [], none⟩)
    (fun x => x.1 ≤ k + 1 ∧ x.2.Perm D0 ∧ bub r x.1 x.2 = srt r D0 (k + 1)) (fun x => x.1) (k + 1, srt r D0 k) ⟨by simp, srt_perm r _ _ (by omega), by rw [srt_succ]⟩ (by simp -failIfUnchanged (disch := first|omega|(simp<;>omega)|fail) only [go_sem,simprocAttr]; try simp) (fun _ => by simp -failIfUnchanged (disch := first|omega|(simp<;>omega)|fail) only [go_sem,simprocAttr]) ?_
   rintro ⟨j, e⟩ ⟨hj, hp, hb⟩
   dsimp only at hj hp hb ⊢
   have hel : e.length = n := by rw [hp.length_eq, hD0l]
   have hdn : (vL r e).length = n := by rw [List.length_map]; exact hel
   simp -failIfUnchanged (disch := first|omega|(simp<;>omega)|fail) only [go_sem,simprocAttr]
   refine WGd_bool (fun h1 => ?_) (fun h1 => ?_)
   ·have h1' : (0 : Int) < j := of_decide_eq_true h1
    obtain ⟨m, rfl⟩ : ∃ m, j = m + 1 := ⟨j - 1, by omega⟩
    have e1 : (((m + 1 : Nat) : Int) - 1) = (m : Int) := by omega
    have g1 : (vL r e)[m + 1]?.getD default = r (nth e (m + 1)) := vL_get (by omega)
    have g2 : (vL r e)[m]?.getD default = r (nth e m) := vL_get (by omega)
    simp -failIfUnchanged (disch := first|omega|(simp<;>omega)|fail) only [go_sem,simprocAttr, h1, e1, g1, g2]
    refine wcall (c152 _ _) ?_
    simp -failIfUnchanged (disch := first|omega|(simp<;>omega)|fail) only [go_sem,simprocAttr]
    refine wcond_dec (fun h2 => ?_) (fun h2 => ?_)
    ·have h2' : r (nth e m) < r (nth e (m + 1)) := by
      unfold cmpI at h2
      repeat' split at h2
      all_goals omega
     have hb' : bub r m (swp e (m + 1)) = srt r D0 (k + 1) := by
      rw [← hb]
      show _ = bub r (m + 1) e
      rw [bub, if_pos (by show r (nth e m) < r (nth e (m + 1)); exact h2')]
     have hsw : ((vL r e).set (m + 1) (r (nth e m))).set m (r (nth e (m + 1))) = vL r (swp e (m + 1)) := by
      rw [vL_set, vL_set]
      rfl
     simp -failIfUnchanged (disch := first|omega|(simp<;>omega)|fail) only [go_sem,simprocAttr, h1, e1, g1, g2]
     refine lpx_norm ⟨(m, swp e (m + 1)), ⟨by dsimp only; omega, (swp_perm e m (by omega)).trans hp, hb'⟩, by dsimp only; omega, ?_, by simp -failIfUnchanged (disch := first|omega|(simp<;>omega)|fail) only [go_sem,simprocAttr]⟩
     dsimp only
     rw [← hsw]
     simp -failIfUnchanged (disch := first|omega|(simp<;>omega)|fail) only [go_sem,simprocAttr]
     try simp
    ·have h2' : ¬ r (nth e m) < r (nth e (m + 1)) := by
      unfold cmpI at h2
      intro h3
      rw [if_pos h3] at h2
      exact h2 (by omega)
     have hb' : e = srt r D0 (k + 1) := by
      rw [← hb]
      show _ = bub r (m + 1) e
      rw [bub, if_neg (by show ¬ r (nth e m) < r (nth e (m + 1)); exact h2')]
     simp -failIfUnchanged (disch := first|omega|(simp<;>omega)|fail) only [go_sem,simprocAttr]
     refine lpx_norm ⟨k + 1, .inl hk1, by omega, ?_, by simp -failIfUnchanged (disch := first|omega|(simp<;>omega)|fail) only [go_sem,simprocAttr]⟩
     rw [← hb']
     simp -failIfUnchanged (disch := first|omega|(simp<;>omega)|fail) only [go_sem,simprocAttr]
     try simp
   ·have h1' : ¬ (0 : Int) < j := of_decide_eq_false h1
    obtain rfl : j = 0 := by omega
    have hb' : e = srt r D0 (k + 1) := hb
    simp -failIfUnchanged (disch := first|omega|(simp<;>omega)|fail) only [go_sem,simprocAttr, h1]
    refine lpx_norm ⟨k + 1, .inl hk1, by omega, ?_, by simp -failIfUnchanged (disch := first|omega|(simp<;>omega)|fail) only [go_sem,simprocAttr]⟩
    rw [← hb']
    simp -failIfUnchanged (disch := first|omega|(simp<;>omega)|fail) only [go_sem,simprocAttr]
    try simp
  ·have hkn : k = n - 1 := by omega
   have hcut : srt r D0 k = srtN r n := by
    unfold srtN
    rw [hD0, hkn]
   have hsl : (vL r (srtN r n)).length = n := by rw [List.length_map, srtN_len]
   have hle : (n ≤ (srtN r n).length) = True := eq_true (by rw [srtN_len]; omega)
   rw [hcut]
   simp -failIfUnchanged (disch := first|omega|(simp<;>omega)|fail) only [go_sem,simprocAttr, chunks_ints, hle]
   try simp
end Go.Proofs.YtpangdaijhiohaaGreatDoor.Bd

set_option linter.unusedSimpArgs false
set_option linter.unusedVariables false
set_option linter.unnecessarySimpa false
namespace Go.Proofs.YtpangdaijhiohaaGreatDoor.Bd
open Go Go.V Mo Bu
theorem areB_false {m : Int} {l : List Int} {i : Nat} (hi : i < l.length) (h : within (l[i]?.getD default) 0 m = false) : areB m l = false := by
 unfold areB
 rw [Bool.not_eq_false', List.any_eq_true]
 refine ⟨l[i], List.getElem_mem _, ?_⟩
 rw [List.getElem?_eq_getElem hi] at h
 simpa using h
theorem areB_true {m : Int} {l : List Int} (h : ∀ i, i < l.length → within (l[i]?.getD default) 0 m = true) : areB m l = true := by
 unfold areB
 rw [Bool.not_eq_true', List.any_eq_false]
 intro x hx
 obtain ⟨i, hi, rfl⟩ := List.getElem_of_mem hx
 have := h i hi
 rw [List.getElem?_eq_getElem hi] at this
 simpa using this
def wok (t : Tn) (i : Nat) : Bool := within (wyA t i).h 0 ((t.hs.length : Int) - 1) && within (wyA t i).w 0 ((t.ws.length : Int) - 1) && (decide (i = 0) || befW (wyA t (i - 1)).h (wyA t (i - 1)).w (wyA t i).h (wyA t i).w)
def vld (t : Tn) : Bool := decide (t.hs.length ≤ 6 ∧ t.ws.length ≤ 5) && areB 9 t.hs && areB 20 t.ws && (List.range t.wy.length).all (wok t)
def chkB (t : Tn) : Bool := decide (t.wy.length ≤ 12) && vld t
theorem all_false {n i : Nat} {p : Nat → Bool} (hi : i < n) (h : p i = false) : (List.range n).all p = false := by
 rw [List.all_eq_false]
 exact ⟨i, List.mem_range.2 hi, by simp [h]⟩
theorem all_true {n : Nat} {p : Nat → Bool} (h : ∀ i, i < n → p i = true) : (List.range n).all p = true := by
 rw [List.all_eq_true]
 intro i hi
 exact h i (List.mem_range.1 hi)
theorem c111 (t : Tn) (h : t.hs.length ≤ 100) (n : Int) : Ctr Tryz.prog 111 [TB t, .int n] (.bool (within n 0 ((t.hs.length : Int) - 1))) := by
 refine ctr_of_wp hmix Tryz.func111 m111 rfl ?_
 unfold v111
 simp -failIfUnchanged (disch := first|omega|(simp<;>omega)|fail) only [go_sem,simprocAttr]
 refine wcall (c110 _ _ _) ?_
 simp -failIfUnchanged (disch := first|omega|(simp<;>omega)|fail) only [go_sem,simprocAttr]
theorem c112 (t : Tn) (h : t.ws.length ≤ 100) (n : Int) : Ctr Tryz.prog 112 [TB t, .int n] (.bool (within n 0 ((t.ws.length : Int) - 1))) := by
 refine ctr_of_wp hmix Tryz.func112 m112 rfl ?_
 unfold v112
 simp -failIfUnchanged (disch := first|omega|(simp<;>omega)|fail) only [go_sem,simprocAttr]
 refine wcall (c110 _ _ _) ?_
 simp -failIfUnchanged (disch := first|omega|(simp<;>omega)|fail) only [go_sem,simprocAttr]
theorem c123 (t : Tn) (h : t.hs.length ≤ 100) (n : Int) : Ctr Tryz.prog 123 [TB t, .int n] (.bool (within n 0 ((t.hs.length : Int) - 1))) := by
 refine ctr_of_wp hmix Tryz.func123 m123 rfl ?_
 unfold v123
 simp -failIfUnchanged (disch := first|omega|(simp<;>omega)|fail) only [go_sem,simprocAttr]
 refine wcall (c121 _ _ _) ?_
 simp -failIfUnchanged (disch := first|omega|(simp<;>omega)|fail) only [go_sem,simprocAttr]
theorem c124 (t : Tn) (h : t.ws.length ≤ 100) (n : Int) : Ctr Tryz.prog 124 [TB t, .int n] (.bool (within n 0 ((t.ws.length : Int) - 1))) := by
 refine ctr_of_wp hmix Tryz.func124 m124 rfl ?_
 unfold v124
 simp -failIfUnchanged (disch := first|omega|(simp<;>omega)|fail) only [go_sem,simprocAttr]
 refine wcall (c121 _ _ _) ?_
 simp -failIfUnchanged (disch := first|omega|(simp<;>omega)|fail) only [go_sem,simprocAttr]
theorem c68 (t : Tn) (hw : t.wy.length ≤ 12) : Ctr Tryz.prog 68 [TB t] (.bool (vld t)) := by
 refine ctr_of_wp hmix Tryz.func68 m68 rfl ?_
 unfold v68
 simp -failIfUnchanged (disch := first|omega|(simp<;>omega)|fail) only [go_sem,simprocAttr]
 refine WGd_bool (fun h1 => ?_) (fun h1 => ?_)
 ·have h1' := of_decide_eq_false h1
  simp -failIfUnchanged (disch := first|omega|(simp<;>omega)|fail) only [go_sem,simprocAttr, h1]
  refine wcond_dec (fun h2 => ?_) (fun h2 => ?_)
  ·have e : vld t = false := by unfold vld; rw [decide_eq_false (by omega)]; rfl
   simp -failIfUnchanged (disch := first|omega|(simp<;>omega)|fail) only [go_sem,simprocAttr, e]
  ·simp -failIfUnchanged (disch := first|omega|(simp<;>omega)|fail) only [go_sem,simprocAttr]
   refine wp_loop' Nat (fun i => ⟨[(1, .ptr 1 0), (3, .int i)], [(1, ⟨[IS t.hs, IS t.ws, WS t.wy], false⟩)], [], none⟩) (fun i => i ≤ t.hs.length ∧ ∀ j, j < i → within (t.hs[j]?.getD default) 0 9 = true) (fun i => t.hs.length - i) 0 (by simp) (by simp -failIfUnchanged (disch := first|omega|(simp<;>omega)|fail) only [go_sem,simprocAttr]; try simp) ?_
   rintro i ⟨hi, hpre⟩
   simp -failIfUnchanged (disch := first|omega|(simp<;>omega)|fail) only [go_sem,simprocAttr]
   refine wcond_dec (fun h3 => ?_) (fun h3 => ?_)
   ·have hlt : i < t.hs.length := by omega
    simp -failIfUnchanged (disch := first|omega|(simp<;>omega)|fail) only [go_sem,simprocAttr]
    refine wcall (c110 _ _ _) ?_
    cases hx : within (t.hs[i]?.getD default) 0 9 with
    | true =>
     simp -failIfUnchanged (disch := first|omega|(simp<;>omega)|fail) only [go_sem,simprocAttr]
     refine ⟨i + 1, ⟨by omega, fun j hj => ?_⟩, by dsimp only; omega, ?_⟩
     ·rcases Nat.lt_or_ge j i with q | q
      ·exact hpre j q
      ·obtain rfl : j = i := by omega
       exact hx
     ·simp -failIfUnchanged (disch := first|omega|(simp<;>omega)|fail) only [go_sem,simprocAttr]
      try simp
    | false =>
     have e : vld t = false := by unfold vld; rw [areB_false hlt hx]; simp
     simp -failIfUnchanged (disch := first|omega|(simp<;>omega)|fail) only [go_sem,simprocAttr, e]
   ·have hA : areB 9 t.hs = true := areB_true fun j hj => hpre j (by omega)
    simp -failIfUnchanged (disch := first|omega|(simp<;>omega)|fail) only [go_sem,simprocAttr]
    refine wp_loop' Nat (fun i => ⟨[(1, .ptr 1 0), (4, .int i)], [(1, ⟨[IS t.hs, IS t.ws, WS t.wy], false⟩)], [], none⟩) (fun i => i ≤ t.ws.length ∧ ∀ j, j < i → within (t.ws[j]?.getD default) 0 20 = true) (fun i => t.ws.length - i) 0 (by simp) (by simp -failIfUnchanged (disch := first|omega|(simp<;>omega)|fail) only [go_sem,simprocAttr]; try simp) ?_
    clear hpre hi h3
    rintro i ⟨hi, hpre⟩
    simp -failIfUnchanged (disch := first|omega|(simp<;>omega)|fail) only [go_sem,simprocAttr]
    refine wcond_dec (fun h3 => ?_) (fun h3 => ?_)
    ·have hlt : i < t.ws.length := by omega
     simp -failIfUnchanged (disch := first|omega|(simp<;>omega)|fail) only [go_sem,simprocAttr]
     refine wcall (c110 _ _ _) ?_
     cases hx : within (t.ws[i]?.getD default) 0 20 with
     | true =>
      simp -failIfUnchanged (disch := first|omega|(simp<;>omega)|fail) only [go_sem,simprocAttr]
      refine ⟨i + 1, ⟨by omega, fun j hj => ?_⟩, by dsimp only; omega, ?_⟩
      ·rcases Nat.lt_or_ge j i with q | q
       ·exact hpre j q
       ·obtain rfl : j = i := by omega
        exact hx
      ·simp -failIfUnchanged (disch := first|omega|(simp<;>omega)|fail) only [go_sem,simprocAttr]
       try simp
     | false =>
      have e : vld t = false := by unfold vld; rw [areB_false hlt hx]; simp
      simp -failIfUnchanged (disch := first|omega|(simp<;>omega)|fail) only [go_sem,simprocAttr, e]
    ·have hB : areB 20 t.ws = true := areB_true fun j hj => hpre j (by omega)
     simp -failIfUnchanged (disch := first|omega|(simp<;>omega)|fail) only [go_sem,simprocAttr]
     refine wp_loop' Nat (fun i => ⟨[(1, .ptr 1 0), (5, .int i)], [(1, ⟨[IS t.hs, IS t.ws, WS t.wy], false⟩)], [], none⟩) (fun i => i ≤ t.wy.length ∧ ∀ j, j < i → wok t j = true) (fun i => t.wy.length - i) 0 (by simp) (by simp -failIfUnchanged (disch := first|omega|(simp<;>omega)|fail) only [go_sem,simprocAttr]; try simp) ?_
     clear hpre hi h3
     rintro i ⟨hi, hpre⟩
     simp -failIfUnchanged (disch := first|omega|(simp<;>omega)|fail) only [go_sem,simprocAttr]
     refine wcond_dec (fun h3 => ?_) (fun h3 => ?_)
     ·have hlt : i < t.wy.length := by omega
      obtain ⟨y, hy⟩ : ∃ y, t.wy[i]?.getD default = y := ⟨_, rfl⟩
      have hwk : wok t i = (within y.h 0 ((t.hs.length : Int) - 1) && within y.w 0 ((t.ws.length : Int) - 1) && (decide (i = 0) || befW (wyA t (i - 1)).h (wyA t (i - 1)).w y.h y.w)) := by unfold wok wyA; rw [hy]
      have fin : ∀ {Q : Prop}, (wok t i = false → Q) → (vld t = false → Q) → wok t i = false → Q := fun h _ => h
      simp -failIfUnchanged (disch := first|omega|(simp<;>omega)|fail) only [go_sem,simprocAttr, wy_get, hy]
      refine wcall (c111 t (by omega) _) ?_
      cases q1 : within y.h 0 ((t.hs.length : Int) - 1) with
      | false =>
       have e : vld t = false := by unfold vld; rw [all_false hlt (by rw [hwk, q1]; rfl)]; simp
       simp -failIfUnchanged (disch := first|omega|(simp<;>omega)|fail) only [go_sem,simprocAttr, e]
      | true =>
       simp -failIfUnchanged (disch := first|omega|(simp<;>omega)|fail) only [go_sem,simprocAttr]
       refine wcall (c112 t (by omega) _) ?_
       cases q2 : within y.w 0 ((t.ws.length : Int) - 1) with
       | false =>
        have e : vld t = false := by unfold vld; rw [all_false hlt (by rw [hwk, q1, q2]; rfl)]; simp
        simp -failIfUnchanged (disch := first|omega|(simp<;>omega)|fail) only [go_sem,simprocAttr, e]
       | true =>
        simp -failIfUnchanged (disch := first|omega|(simp<;>omega)|fail) only [go_sem,simprocAttr]
        refine WGd_bool (fun h4 => ?_) (fun h4 => ?_)
        ·have h4' : (0 : Int) < i := of_decide_eq_true h4
         obtain ⟨k, rfl⟩ : ∃ k, i = k + 1 := ⟨i - 1, by omega⟩
         obtain ⟨z, hz⟩ : ∃ z, t.wy[k]?.getD default = z := ⟨_, rfl⟩
         have ek : (((k + 1 : Nat) : Int) - 1) = (k : Int) := by omega
         have hz' : wyA t (k + 1 - 1) = z := hz
         rw [hz'] at hwk
         simp -failIfUnchanged (disch := first|omega|(simp<;>omega)|fail) only [go_sem,simprocAttr, h4, ek, wy_get, hz]
         refine wcall (c113 z.h z.w y.h y.w) ?_
         simp -failIfUnchanged (disch := first|omega|(simp<;>omega)|fail) only [go_sem,simprocAttr]
         cases q3 : befW z.h z.w y.h y.w with
         | false =>
          have e : vld t = false := by unfold vld; rw [all_false hlt (by rw [hwk, q1, q2, q3]; simp)]; simp
          simp -failIfUnchanged (disch := first|omega|(simp<;>omega)|fail) only [go_sem,simprocAttr, e]
         | true =>
          simp -failIfUnchanged (disch := first|omega|(simp<;>omega)|fail) only [go_sem,simprocAttr]
          refine ⟨k + 1 + 1, ⟨by omega, fun j hj => ?_⟩, by dsimp only; omega, ?_⟩
          ·rcases Nat.lt_or_ge j (k + 1) with q | q
           ·exact hpre j q
           ·obtain rfl : j = k + 1 := by omega
            rw [hwk, q1, q2, q3]; simp
          ·simp -failIfUnchanged (disch := first|omega|(simp<;>omega)|fail) only [go_sem,simprocAttr]
           try simp
        ·have h4' : ¬ (0 : Int) < i := of_decide_eq_false h4
         obtain rfl : i = 0 := by omega
         simp -failIfUnchanged (disch := first|omega|(simp<;>omega)|fail) only [go_sem,simprocAttr, h4]
         refine ⟨0 + 1, ⟨by omega, fun j hj => ?_⟩, by dsimp only; omega, ?_⟩
         ·obtain rfl : j = 0 := by omega
          rw [hwk, q1, q2]; simp
         ·simp -failIfUnchanged (disch := first|omega|(simp<;>omega)|fail) only [go_sem,simprocAttr]
          try simp
     ·have hC : (List.range t.wy.length).all (wok t) = true := all_true fun j hj => hpre j (by omega)
      have e : vld t = true := by unfold vld; rw [hA, hB, hC, decide_eq_true (by omega)]; rfl
      simp -failIfUnchanged (disch := first|omega|(simp<;>omega)|fail) only [go_sem,simprocAttr, e]
 ·have h1' := of_decide_eq_true h1
  have e : vld t = false := by unfold vld; rw [decide_eq_false (by omega)]; rfl
  simp -failIfUnchanged (disch := first|omega|(simp<;>omega)|fail) only [go_sem,simprocAttr, h1, e]
theorem c120 (n : Int) : Ctr Tryz.prog 120 [.int n] (.bool (!within n 0 9)) := by
 refine ctr_of_wp hmix Tryz.func120 m120 rfl ?_
 unfold v120
 simp -failIfUnchanged (disch := first|omega|(simp<;>omega)|fail) only [go_sem,simprocAttr]
 refine wcall (c121 _ _ _) ?_
 simp -failIfUnchanged (disch := first|omega|(simp<;>omega)|fail) only [go_sem,simprocAttr]
theorem c122 (n : Int) : Ctr Tryz.prog 122 [.int n] (.bool (!within n 0 20)) := by
 refine ctr_of_wp hmix Tryz.func122 m122 rfl ?_
 unfold v122
 simp -failIfUnchanged (disch := first|omega|(simp<;>omega)|fail) only [go_sem,simprocAttr]
 refine wcall (c121 _ _ _) ?_
 simp -failIfUnchanged (disch := first|omega|(simp<;>omega)|fail) only [go_sem,simprocAttr]
theorem c75 (t : Tn) (h1 : t.hs.length ≤ 40) (h2 : t.ws.length ≤ 40) (h3 : t.wy.length ≤ 40) : Ctr Tryz.prog 75 [TB t] (.int (if chkB t = true then 0 else 30)) := by
 refine ctr_of_wp hmix Tryz.func75 m75 rfl ?_
 unfold v75
 by_cases hlen : t.hs.length ≤ 6 ∧ t.ws.length ≤ 5 ∧ t.wy.length ≤ 12
 ·obtain ⟨l1, l2, l3⟩ := hlen
  have g1 : decide ((6 : Int) < t.hs.length) = false := decide_eq_false (by omega)
  have g2 : decide ((5 : Int) < t.ws.length) = false := decide_eq_false (by omega)
  have g3 : decide ((12 : Int) < t.wy.length) = false := decide_eq_false (by omega)
  have hck : chkB t = (areB 9 t.hs && areB 20 t.ws && (List.range t.wy.length).all (wok t)) := by unfold chkB vld; rw [decide_eq_true l3, decide_eq_true ⟨l1, l2⟩]; rfl
  simp -failIfUnchanged (disch := first|omega|(simp<;>omega)|fail) only [go_sem,simprocAttr, g1, g2, g3]
  refine wcall (c119 t.hs 120 [] (fun n => !within n 0 9) (fun x _ => c120 x) (by omega)) ?_
  cases hA : areB 9 t.hs with
  | false =>
   have e : (t.hs.any fun n => !within n 0 9) = true := by unfold areB at hA; simpa using hA
   rw [hA] at hck
   rw [e, hck]
   simp -failIfUnchanged (disch := first|omega|(simp<;>omega)|fail) only [go_sem,simprocAttr]
   try simp
  | true =>
   have e : (t.hs.any fun n => !within n 0 9) = false := by unfold areB at hA; simpa using hA
   rw [e]
   simp -failIfUnchanged (disch := first|omega|(simp<;>omega)|fail) only [go_sem,simprocAttr]
   refine wcall (c119 t.ws 122 [] (fun n => !within n 0 20) (fun x _ => c122 x) (by omega)) ?_
   cases hB : areB 20 t.ws with
   | false =>
    have e : (t.ws.any fun n => !within n 0 20) = true := by unfold areB at hB; simpa using hB
    rw [hA, hB] at hck
    rw [e, hck]
    simp -failIfUnchanged (disch := first|omega|(simp<;>omega)|fail) only [go_sem,simprocAttr]
    try simp
   | true =>
    have e : (t.ws.any fun n => !within n 0 20) = false := by unfold areB at hB; simpa using hB
    rw [e]
    rw [hA, hB] at hck
    have hck : chkB t = (List.range t.wy.length).all (wok t) := by rw [hck]; simp
    rw [hck]
    simp -failIfUnchanged (disch := first|omega|(simp<;>omega)|fail) only [go_sem,simprocAttr]
    refine wp_loop' Nat (fun i => ⟨[(1, .ptr 1 0), (30, WS t.wy), (31, .int t.wy.length), (32, .int i)], [(1, ⟨[IS t.hs, IS t.ws, WS t.wy], false⟩)], [], none⟩) (fun i => i ≤ t.wy.length ∧ ∀ j, j < i → wok t j = true) (fun i => t.wy.length - i) 0 (by simp) (by simp -failIfUnchanged (disch := first|omega|(simp<;>omega)|fail) only [go_sem,simprocAttr]; try simp) ?_
    rintro i ⟨hi, hpre⟩
    simp -failIfUnchanged (disch := first|omega|(simp<;>omega)|fail) only [go_sem,simprocAttr]
    refine wcond_dec (fun h3 => ?_) (fun h3 => ?_)
    ·have hlt : i < t.wy.length := by omega
     obtain ⟨y, hy⟩ : ∃ y, t.wy[i]?.getD default = y := ⟨_, rfl⟩
     have hwk : wok t i = (within y.h 0 ((t.hs.length : Int) - 1) && within y.w 0 ((t.ws.length : Int) - 1) && (decide (i = 0) || befW (wyA t (i - 1)).h (wyA t (i - 1)).w y.h y.w)) := by unfold wok wyA; rw [hy]
     simp -failIfUnchanged (disch := first|omega|(simp<;>omega)|fail) only [go_sem,simprocAttr, wy_get, hy]
     refine wcall (c123 t (by omega) _) ?_
     cases q1 : within y.h 0 ((t.hs.length : Int) - 1) with
     | false =>
      have e : (List.range t.wy.length).all (wok t) = false := all_false hlt (by rw [hwk, q1]; rfl)
      rw [e]
      simp -failIfUnchanged (disch := first|omega|(simp<;>omega)|fail) only [go_sem,simprocAttr]
      try simp
     | true =>
      simp -failIfUnchanged (disch := first|omega|(simp<;>omega)|fail) only [go_sem,simprocAttr]
      refine wcall (c124 t (by omega) _) ?_
      cases q2 : within y.w 0 ((t.ws.length : Int) - 1) with
      | false =>
       have e : (List.range t.wy.length).all (wok t) = false := all_false hlt (by rw [hwk, q1, q2]; rfl)
       rw [e]
       simp -failIfUnchanged (disch := first|omega|(simp<;>omega)|fail) only [go_sem,simprocAttr]
       try simp
      | true =>
       simp -failIfUnchanged (disch := first|omega|(simp<;>omega)|fail) only [go_sem,simprocAttr]
       refine WGd_bool (fun h4 => ?_) (fun h4 => ?_)
       ·have h4' : (0 : Int) < i := of_decide_eq_true h4
        obtain ⟨k, rfl⟩ : ∃ k, i = k + 1 := ⟨i - 1, by omega⟩
        obtain ⟨z, hz⟩ : ∃ z, t.wy[k]?.getD default = z := ⟨_, rfl⟩
        have ek : (((k + 1 : Nat) : Int) - 1) = (k : Int) := by omega
        have hz' : wyA t (k + 1 - 1) = z := hz
        rw [hz'] at hwk
        simp -failIfUnchanged (disch := first|omega|(simp<;>omega)|fail) only [go_sem,simprocAttr, h4, ek, wy_get, hz]
        refine wcall (c125 z.h z.w y.h y.w) ?_
        simp -failIfUnchanged (disch := first|omega|(simp<;>omega)|fail) only [go_sem,simprocAttr]
        rw [cmp_bef]
        cases q3 : befW z.h z.w y.h y.w with
        | false =>
         have e : (List.range t.wy.length).all (wok t) = false := all_false hlt (by rw [hwk, q1, q2, q3]; simp)
         rw [e]
         simp -failIfUnchanged (disch := first|omega|(simp<;>omega)|fail) only [go_sem,simprocAttr]
         try simp
        | true =>
         simp -failIfUnchanged (disch := first|omega|(simp<;>omega)|fail) only [go_sem,simprocAttr]
         refine ⟨k + 1 + 1, ⟨by omega, fun j hj => ?_⟩, by dsimp only; omega, ?_⟩
         ·rcases Nat.lt_or_ge j (k + 1) with q | q
          ·exact hpre j q
          ·obtain rfl : j = k + 1 := by omega
           rw [hwk, q1, q2, q3]; simp
         ·simp -failIfUnchanged (disch := first|omega|(simp<;>omega)|fail) only [go_sem,simprocAttr]
          try simp
       ·have h4' : ¬ (0 : Int) < i := of_decide_eq_false h4
        obtain rfl : i = 0 := by omega
        simp -failIfUnchanged (disch := first|omega|(simp<;>omega)|fail) only [go_sem,simprocAttr, h4]
        refine ⟨0 + 1, ⟨by omega, fun j hj => ?_⟩, by dsimp only; omega, ?_⟩
        ·obtain rfl : j = 0 := by omega
         rw [hwk, q1, q2]; simp
        ·simp -failIfUnchanged (disch := first|omega|(simp<;>omega)|fail) only [go_sem,simprocAttr]
         try simp
    ·have e : (List.range t.wy.length).all (wok t) = true := all_true fun j hj => hpre j (by omega)
     rw [e]
     simp -failIfUnchanged (disch := first|omega|(simp<;>omega)|fail) only [go_sem,simprocAttr]
     try simp
 ·have e : chkB t = false := by
   unfold chkB vld
   by_cases q : t.wy.length ≤ 12
   ·rw [decide_eq_false (p := t.hs.length ≤ 6 ∧ t.ws.length ≤ 5) (by omega)]
    simp
   ·rw [decide_eq_false q]
    rfl
  rw [e]
  simp -failIfUnchanged (disch := first|omega|(simp<;>omega)|fail) only [go_sem,simprocAttr]
  refine WGd_bool (fun a1 => ?_) (fun a1 => ?_)
  ·simp -failIfUnchanged (disch := first|omega|(simp<;>omega)|fail) only [go_sem,simprocAttr, a1]
   refine WGd_bool (fun a2 => ?_) (fun a2 => ?_)
   ·have a3 : decide ((12 : Int) < t.wy.length) = true := decide_eq_true (by have := of_decide_eq_false a1; have := of_decide_eq_false a2; omega)
    simp -failIfUnchanged (disch := first|omega|(simp<;>omega)|fail) only [go_sem,simprocAttr, a2, a3]
    try simp
   ·simp -failIfUnchanged (disch := first|omega|(simp<;>omega)|fail) only [go_sem,simprocAttr, a2]
    try simp
  ·simp -failIfUnchanged (disch := first|omega|(simp<;>omega)|fail) only [go_sem,simprocAttr, a1]
   try simp
theorem vb_of {t : Tn} (h : chkB t = true) : Vb t := by
 unfold chkB vld at h
 simp only [Bool.and_eq_true, decide_eq_true_eq, List.all_eq_true, List.mem_range] at h
 obtain ⟨h1, ⟨⟨⟨h2, h3⟩, h4⟩, h5⟩, h6⟩ := h
 have key : ∀ {m : Int} {l : List Int}, areB m l = true → ∀ i, i < l.length → 0 ≤ cA l i ∧ cA l i ≤ m := by
  intro m l h i hi
  unfold areB at h
  rw [Bool.not_eq_true', List.any_eq_false] at h
  have := h _ (List.getElem_mem hi)
  simp only [within, Bool.not_eq_true, Bool.not_eq_false', decide_eq_true_eq] at this
  unfold cA
  rw [List.getElem?_eq_getElem hi]
  exact this
 refine ⟨h2, h3, h1, key h4, key h5, fun i hi => ?_⟩
 have := h6 i hi
 unfold wok within at this
 simp only [Bool.and_eq_true, decide_eq_true_eq] at this
 omega
end Go.Proofs.YtpangdaijhiohaaGreatDoor.Bd

set_option linter.unusedSimpArgs false
set_option linter.unusedVariables false
set_option linter.unnecessarySimpa false
namespace Go.Proofs.YtpangdaijhiohaaGreatDoor.Bd
open Go Go.V Mo Bu
def lks (t : Tn) : List Int := srtD (lacL t (fairL t))
theorem c24 (t : Tn) (hc : chkB t = true) : Ctr Tryz.prog 24 [TB t] (.tup [IS (lks t), .int 0]) := by
 refine ctr_of_wp hmix Tryz.func24 m24 rfl ?_
 unfold v24
 have hv := vb_of hc
 simp -failIfUnchanged (disch := first|omega|(simp<;>omega)|fail) only [go_sem,simprocAttr]
 have n1 := hv.n1
 have n2 := hv.n2
 have n3 := hv.n3
 refine wcall (c75 t (by omega) (by omega) (by omega)) ?_
 rw [if_pos hc]
 simp -failIfUnchanged (disch := first|omega|(simp<;>omega)|fail) only [go_sem,simprocAttr]
 refine wcall (c76 t hv.vw) ?_
 simp -failIfUnchanged (disch := first|omega|(simp<;>omega)|fail) only [go_sem,simprocAttr]
 try simp
 try rfl
end Go.Proofs.YtpangdaijhiohaaGreatDoor.Bd

set_option linter.unusedSimpArgs false
set_option linter.unusedVariables false
set_option linter.unnecessarySimpa false
namespace Go.Proofs.YtpangdaijhiohaaGreatDoor.Bd
open Go Go.V Mo Bu
end Go.Proofs.YtpangdaijhiohaaGreatDoor.Bd

set_option linter.unusedSimpArgs false
set_option linter.unusedVariables false
set_option linter.unnecessarySimpa false
namespace Go.Proofs.YtpangdaijhiohaaGreatDoor.Bd
open Go Go.V Mo Bu
theorem ag54 : aggOf Tryz.prog 54 = some true := by kernel_rfl
theorem sz54 : szOf Tryz.prog 54 = some 3 := by kernel_rfl
attribute [go_sem] ag54 sz54
theorem flatW_len (l : List Wy) : (flat (l.map WYv)).length = l.length * 2 := by
 rw [flat_length (sz := 2)]
 ·simp
 ·intro e he
  obtain ⟨s, _, rfl⟩ := List.mem_map.1 he
  rfl
theorem flatW_tidy (l : List Wy) (hp : HpL) : (flat (l.map WYv)).map (tidy hp) = flat (l.map WYv) := by
 induction l with
 | nil => rfl
 | cons s r ih => simp only [List.map_cons, flat, cells_agg, List.map_append, List.map_nil, tidy_int, ih]
theorem flatW_strip (l : List Wy) (hp : HpL) : (flat (l.map WYv)).map (strip hp) = flat (l.map WYv) := by
 induction l with
 | nil => rfl
 | cons s r ih => simp only [List.map_cons, flat, cells_agg, List.map_append, List.map_nil, strip_int, ih]
theorem flatW_scopes (l : List Wy) (τ : AS) : scopes τ (flat (l.map WYv)) = True := by
 induction l with
 | nil => rfl
 | cons s r ih => simp only [List.map_cons, flat, cells_agg, List.cons_append, List.nil_append, scopes, inS_int, ih, and_self]
theorem flatW_bids (l : List Wy) : bids (flat (l.map WYv)) = [] := by
 induction l with
 | nil => rfl
 | cons s r ih => simp only [List.map_cons, flat, cells_agg, List.cons_append, List.nil_append, bids, bid_int, ih]
attribute [go_sem] flatW_len flatW_tidy flatW_strip flatW_scopes flatW_bids
end Go.Proofs.YtpangdaijhiohaaGreatDoor.Bd

set_option linter.unusedSimpArgs false
set_option linter.unusedVariables false
set_option linter.unnecessarySimpa false
namespace Go.Proofs.YtpangdaijhiohaaGreatDoor.Bd
open Go Go.V Mo Bu
end Go.Proofs.YtpangdaijhiohaaGreatDoor.Bd

set_option linter.unusedSimpArgs false
set_option linter.unusedVariables false
set_option linter.unnecessarySimpa false
namespace Go.Proofs.YtpangdaijhiohaaGreatDoor.Bd
open Go Go.V Mo Bu
def exB : Tn := ⟨[5, 4, 3], [4, 3], [⟨0, 0⟩, ⟨1, 0⟩, ⟨1, 1⟩, ⟨2, 1⟩]⟩
def exC : Tn := ⟨[2, 3], [5, 0], [⟨0, 0⟩, ⟨1, 1⟩]⟩
def exD : Tn := ⟨[1], [1, 1], [⟨0, 0⟩, ⟨0, 1⟩]⟩
theorem lks_B : lks exB = [2, 2, 1] := by kernel_rfl
theorem chk_B : chkB exB = true := by kernel_rfl
theorem c69 : Ctr Tryz.prog 69 [] (.tup [TB exB, TB exC, TB exD]) := by
 refine ctr_of_wp hmix Tryz.func69 m69 rfl ?_
 unfold v69
 simp -failIfUnchanged (disch := first|omega|(simp<;>omega)|fail) only [go_sem,simprocAttr]
 try rfl
end Go.Proofs.YtpangdaijhiohaaGreatDoor.Bd

set_option linter.unusedSimpArgs false
set_option linter.unusedVariables false
set_option linter.unnecessarySimpa false
namespace Go.Proofs.YtpangdaijhiohaaGreatDoor.Kn
open Go Go.V
theorem hmix : Tryz.prog.follows .mixedOrders = true := by kernel_rfl
abbrev IS (l : List Int) : AV := .sl 1 (l.map .int) .sh
end Go.Proofs.YtpangdaijhiohaaGreatDoor.Kn

set_option linter.unusedSimpArgs false
set_option linter.unusedVariables false
set_option linter.unnecessarySimpa false
namespace Go.Proofs.YtpangdaijhiohaaGreatDoor.Kn
open Go Go.V
structure Sp where
 lo : Int
 hi : Int
 deriving Inhabited, DecidableEq
structure Bk where
 base : Int
 places : Int
 cords : List (List Sp)
 top : List Sp
 deriving Inhabited, DecidableEq
abbrev SP (s : Sp) : AV := .agg [.int s.lo, .int s.hi]
abbrev SS (l : List Sp) : AV := .sl 2 (l.map SP) .sh
abbrev KB (b : Bk) : AV := .agg [.int b.base, .int b.places, .sl 1 (b.cords.map SS) .sh, SS b.top]
def within (n lo hi : Int) : Bool := decide (lo ≤ n ∧ n ≤ hi)
theorem c83 (n lo hi : Int) : Ctr Tryz.prog 83 [.int n, .int lo, .int hi] (.bool (within n lo hi)) := by
 refine ctr_of_wp hmix Tryz.func83 m83 rfl ?_
 unfold v83
 simp -failIfUnchanged (disch := first|omega|(simp<;>omega)|fail) only [go_sem,simprocAttr]
 refine WGd_bool (fun h => ?_) (fun h => ?_)
 ·simp -failIfUnchanged (disch := first|omega|(simp<;>omega)|fail) only [go_sem,simprocAttr, h]
  simp only [decide_eq_true_eq] at h
  simp [within, h]
 ·simp -failIfUnchanged (disch := first|omega|(simp<;>omega)|fail) only [go_sem,simprocAttr, h]
  simp only [Bool.not_true, decide_eq_false_iff_not] at h
  simp [within, h]
theorem c49 (b : Bk) (n : Int) : Ctr Tryz.prog 49 [KB b, .int n] (.bool (within n 0 b.cords.length)) := by
 refine ctr_of_wp hmix Tryz.func49 m49 rfl ?_
 unfold v49
 simp -failIfUnchanged (disch := first|omega|(simp<;>omega)|fail) only [go_sem,simprocAttr]
 refine wcall (c83 _ _ _) ?_
 simp -failIfUnchanged (disch := first|omega|(simp<;>omega)|fail) only [go_sem,simprocAttr]
theorem c86 (b : Bk) (n : Int) : Ctr Tryz.prog 86 [KB b, .int n] (.bool (within n 0 (w64 (b.places - 1)))) := by
 refine ctr_of_wp hmix Tryz.func86 m86 rfl ?_
 unfold v86
 simp -failIfUnchanged (disch := first|omega|(simp<;>omega)|fail) only [go_sem,simprocAttr]
 refine wcall (c83 _ _ _) ?_
 simp -failIfUnchanged (disch := first|omega|(simp<;>omega)|fail) only [go_sem,simprocAttr]
theorem c88 (s : Sp) (d : Int) (h1 : 0 ≤ s.lo ∧ s.lo ≤ 1000) (h2 : 0 ≤ s.hi ∧ s.hi ≤ 1000) (h3 : 0 ≤ d ∧ d ≤ 1000) : Ctr Tryz.prog 88 [SP s, .int d] (.int (max (max 0 (s.lo - d)) (d - s.hi))) := by
 refine ctr_of_wp hmix Tryz.func88 m88 rfl ?_
 unfold v88
 simp -failIfUnchanged (disch := first|omega|(simp<;>omega)|fail) only [go_sem,simprocAttr]
end Go.Proofs.YtpangdaijhiohaaGreatDoor.Kn

set_option linter.unusedSimpArgs false
set_option linter.unusedVariables false
set_option linter.unnecessarySimpa false
namespace Go.Proofs.YtpangdaijhiohaaGreatDoor.Kn
open Go Go.V
def idxF {α : Type} (p : α → Bool) (l : List α) : Int := if l.any p then l.findIdx p else -1
theorem idxF_hit {α : Type} [Inhabited α] {p : α → Bool} {l : List α} {i : Nat} (hi : i < l.length) (hpre : ∀ x ∈ l.take i, p x = false) (h : p (l[i]?.getD default) = true) : idxF p l = i := by
 have e : l[i]?.getD default = l[i] := by simp [hi]
 rw [e] at h
 have hany : l.any p = true := List.any_eq_true.2 ⟨l[i], List.getElem_mem hi, h⟩
 have : l.findIdx p = i := by
  rw [List.findIdx_eq hi]
  refine ⟨h, fun j hj => ?_⟩
  refine hpre _ ?_
  have hj2 : j < l.length := by omega
  have : (l.take i)[j]'(by simp; omega) = l[j] := List.getElem_take
  rw [← this]
  exact List.getElem_mem _
 simp [idxF, hany, this]
theorem idxF_miss {α : Type} {p : α → Bool} {l : List α} (hpre : ∀ x ∈ l, p x = false) : idxF p l = -1 := by
 have : l.any p = false := List.any_eq_false.2 fun x hx => by simp [hpre x hx]
 simp [idxF, this]
theorem idxF_geq {α : Type} {p : α → Bool} {l : List α} : decide ((0 : Int) ≤ idxF p l) = l.any p := by
 unfold idxF
 cases l.any p <;> simp
theorem take_succ_all {α : Type} [Inhabited α] {p : α → Bool} {l : List α} {i : Nat} (hi : i < l.length) (hpre : ∀ x ∈ l.take i, p x = false) (h : p (l[i]?.getD default) = false) : ∀ x ∈ l.take (i + 1), p x = false := by
 intro x hx
 rw [List.take_add_one] at hx
 rcases List.mem_append.1 hx with hx | hx
 ·exact hpre x hx
 ·have e : l[i]? = some l[i] := List.getElem?_eq_getElem hi
  rw [e] at hx h
  simp at hx h
  rw [hx]; exact h
theorem mem_getD {α : Type} [Inhabited α] {l : List α} {i : Nat} (hi : i < l.length) : l[i]?.getD default ∈ l := by
 simp [hi]
theorem c161 (l : List Sp) (g : Nat) (caps : List AV) (p : Sp → Bool) (hp : ∀ x ∈ l, Ctr Tryz.prog g ([SP x] ++ caps) (.bool (p x))) (hl : l.length < 4294967296) :
  Ctr Tryz.prog 161 [SS l, .clo g [] caps] (.int (idxF p l)) := by
 refine ctr_of_wp hmix Tryz.func161 m161 rfl ?_
 unfold v161
 simp -failIfUnchanged (disch := first|omega|(simp<;>omega)|fail) only [go_sem,simprocAttr]
 refine wp_loop' Nat (fun i => ⟨[(0, SS l), (1, .clo g [] caps), (7, .int l.length), (8, .int i)], [], [], none⟩) (fun i => i ≤ l.length ∧ ∀ x ∈ l.take i, p x = false) (fun i => l.length - i) 0 (by simp) (by simp -failIfUnchanged (disch := first|omega|(simp<;>omega)|fail) only [go_sem,simprocAttr]; try rfl) ?_
 rintro i ⟨hi, hpre⟩
 simp -failIfUnchanged (disch := first|omega|(simp<;>omega)|fail) only [go_sem,simprocAttr]
 refine wcond_dec (fun h => ?_) (fun h => ?_)
 ·simp -failIfUnchanged (disch := first|omega|(simp<;>omega)|fail) only [go_sem,simprocAttr]
  have hlt : i < l.length := by omega
  refine wcall (hp _ (mem_getD hlt)) ?_
  simp -failIfUnchanged (disch := first|omega|(simp<;>omega)|fail) only [go_sem,simprocAttr]
  refine wcond_bool (fun hb => ?_) (fun hb => ?_)
  ·simp -failIfUnchanged (disch := first|omega|(simp<;>omega)|fail) only [go_sem,simprocAttr]
   rw [idxF_hit hlt hpre hb]
  ·simp -failIfUnchanged (disch := first|omega|(simp<;>omega)|fail) only [go_sem,simprocAttr]
   refine ⟨i + 1, ⟨by omega, take_succ_all hlt hpre hb⟩, by dsimp only; omega, ?_⟩
   simp -failIfUnchanged (disch := first|omega|(simp<;>omega)|fail) only [go_sem,simprocAttr]
   try simp
 ·simp -failIfUnchanged (disch := first|omega|(simp<;>omega)|fail) only [go_sem,simprocAttr]
  have e : i = l.length := by omega
  rw [idxF_miss]
  rw [e, List.take_length] at hpre
  exact hpre
theorem c144 (l : List Sp) (g : Nat) (caps : List AV) (p : Sp → Bool) (hp : ∀ x ∈ l, Ctr Tryz.prog g ([SP x] ++ caps) (.bool (p x))) (hl : l.length < 4294967296) :
  Ctr Tryz.prog 144 [SS l, .clo g [] caps] (.bool (l.any p)) := by
 refine ctr_of_wp hmix Tryz.func144 m144 rfl ?_
 unfold v144
 simp -failIfUnchanged (disch := first|omega|(simp<;>omega)|fail) only [go_sem,simprocAttr]
 refine wcall (c161 l g caps p hp hl) ?_
 simp -failIfUnchanged (disch := first|omega|(simp<;>omega)|fail) only [go_sem,simprocAttr]
 rw [idxF_geq]
theorem c145 (l : List (List Sp)) (g : Nat) (caps : List AV) (p : List Sp → Bool) (hp : ∀ x ∈ l, Ctr Tryz.prog g ([SS x] ++ caps) (.bool (p x))) (hl : l.length < 4294967296) :
  Ctr Tryz.prog 145 [.sl 1 (l.map SS) .sh, .clo g [] caps] (.int (idxF p l)) := by
 refine ctr_of_wp hmix Tryz.func145 m145 rfl ?_
 unfold v145
 simp -failIfUnchanged (disch := first|omega|(simp<;>omega)|fail) only [go_sem,simprocAttr]
 refine wp_loop' Nat (fun i => ⟨[(0, .sl 1 (l.map SS) .sh), (1, .clo g [] caps), (7, .int l.length), (8, .int i)], [], [], none⟩) (fun i => i ≤ l.length ∧ ∀ x ∈ l.take i, p x = false) (fun i => l.length - i) 0 (by simp) (by simp -failIfUnchanged (disch := first|omega|(simp<;>omega)|fail) only [go_sem,simprocAttr]; try rfl) ?_
 rintro i ⟨hi, hpre⟩
 simp -failIfUnchanged (disch := first|omega|(simp<;>omega)|fail) only [go_sem,simprocAttr]
 refine wcond_dec (fun h => ?_) (fun h => ?_)
 ·simp -failIfUnchanged (disch := first|omega|(simp<;>omega)|fail) only [go_sem,simprocAttr]
  have hlt : i < l.length := by omega
  refine wcall (hp _ (mem_getD hlt)) ?_
  simp -failIfUnchanged (disch := first|omega|(simp<;>omega)|fail) only [go_sem,simprocAttr]
  refine wcond_bool (fun hb => ?_) (fun hb => ?_)
  ·simp -failIfUnchanged (disch := first|omega|(simp<;>omega)|fail) only [go_sem,simprocAttr]
   rw [idxF_hit hlt hpre hb]
  ·simp -failIfUnchanged (disch := first|omega|(simp<;>omega)|fail) only [go_sem,simprocAttr]
   refine ⟨i + 1, ⟨by omega, take_succ_all hlt hpre hb⟩, by dsimp only; omega, ?_⟩
   simp -failIfUnchanged (disch := first|omega|(simp<;>omega)|fail) only [go_sem,simprocAttr]
   try simp
 ·simp -failIfUnchanged (disch := first|omega|(simp<;>omega)|fail) only [go_sem,simprocAttr]
  have e : i = l.length := by omega
  rw [idxF_miss]
  rw [e, List.take_length] at hpre
  exact hpre
theorem c116 (l : List (List Sp)) (g : Nat) (caps : List AV) (p : List Sp → Bool) (hp : ∀ x ∈ l, Ctr Tryz.prog g ([SS x] ++ caps) (.bool (p x))) (hl : l.length < 4294967296) :
  Ctr Tryz.prog 116 [.sl 1 (l.map SS) .sh, .clo g [] caps] (.bool (l.any p)) := by
 refine ctr_of_wp hmix Tryz.func116 m116 rfl ?_
 unfold v116
 simp -failIfUnchanged (disch := first|omega|(simp<;>omega)|fail) only [go_sem,simprocAttr]
 refine wcall (c145 l g caps p hp hl) ?_
 simp -failIfUnchanged (disch := first|omega|(simp<;>omega)|fail) only [go_sem,simprocAttr]
 rw [idxF_geq]
def badS (b : Bk) (s : Sp) : Bool := !within s.lo 0 s.hi || decide (b.base ≤ s.hi)
def isCordB (b : Bk) (l : List Sp) : Bool := decide ((l.length : Int) = b.places) && !l.any (badS b)
def checkB (b : Bk) : Bool := within b.base 2 10 && (within b.places 1 4 && (decide ((b.cords.length : Int) ≤ 4) && (!b.cords.any (fun l => !isCordB b l) && isCordB b b.top)))
structure Small (b : Bk) : Prop where
 cords : b.cords.length < 4294967296
 top : b.top.length < 4294967296
 each : ∀ l ∈ b.cords, l.length < 4294967296
theorem c143 (b : Bk) (s : Sp) : Ctr Tryz.prog 143 [SP s, .ref 4 [KB b] 0 0] (.bool (badS b s)) := by
 refine ctr_of_wp hmix Tryz.func143 m143 rfl ?_
 unfold v143
 simp -failIfUnchanged (disch := first|omega|(simp<;>omega)|fail) only [go_sem,simprocAttr]
 refine wcall (c83 _ _ _) ?_
 simp -failIfUnchanged (disch := first|omega|(simp<;>omega)|fail) only [go_sem,simprocAttr]
 refine WGd_bool (fun h => ?_) (fun h => ?_)
 ·simp -failIfUnchanged (disch := first|omega|(simp<;>omega)|fail) only [go_sem,simprocAttr, h]
  simp [badS, h]
 ·simp -failIfUnchanged (disch := first|omega|(simp<;>omega)|fail) only [go_sem,simprocAttr, h]
  simp only [Bool.not_false] at h
  simp [badS, h]
theorem c115 (b : Bk) (l : List Sp) (hl : l.length < 4294967296) : Ctr Tryz.prog 115 [KB b, SS l] (.bool (isCordB b l)) := by
 refine ctr_of_wp hmix Tryz.func115 m115 rfl ?_
 unfold v115
 simp -failIfUnchanged (disch := first|omega|(simp<;>omega)|fail) only [go_sem,simprocAttr]
 refine WGd_bool (fun h => ?_) (fun h => ?_)
 ·simp -failIfUnchanged (disch := first|omega|(simp<;>omega)|fail) only [go_sem,simprocAttr, h]
  refine wcall (c144 l 143 _ (badS b) (fun x _ => c143 b x) hl) ?_
  simp -failIfUnchanged (disch := first|omega|(simp<;>omega)|fail) only [go_sem,simprocAttr, h]
  simp [isCordB, h]
 ·simp -failIfUnchanged (disch := first|omega|(simp<;>omega)|fail) only [go_sem,simprocAttr, h]
  simp only [Bool.not_true] at h
  simp [isCordB, h]
theorem c114 (b : Bk) (l : List Sp) (hl : l.length < 4294967296) : Ctr Tryz.prog 114 [SS l, .ref 4 [KB b] 0 0] (.bool (!isCordB b l)) := by
 refine ctr_of_wp hmix Tryz.func114 m114 rfl ?_
 unfold v114
 simp -failIfUnchanged (disch := first|omega|(simp<;>omega)|fail) only [go_sem,simprocAttr]
 refine wcall (c115 b l hl) ?_
 simp -failIfUnchanged (disch := first|omega|(simp<;>omega)|fail) only [go_sem,simprocAttr]
theorem c71 (b : Bk) (hs : Small b) : Ctr Tryz.prog 71 [KB b] (.int (if checkB b then 0 else 110)) := by
 refine ctr_of_wp hmix Tryz.func71 m71 rfl ?_
 unfold v71
 simp -failIfUnchanged (disch := first|omega|(simp<;>omega)|fail) only [go_sem,simprocAttr]
 refine wcall (c83 _ _ _) ?_
 simp -failIfUnchanged (disch := first|omega|(simp<;>omega)|fail) only [go_sem,simprocAttr]
 refine WGd_bool (fun h1 => ?_) (fun h1 => ?_)
 ·simp -failIfUnchanged (disch := first|omega|(simp<;>omega)|fail) only [go_sem,simprocAttr, h1]
  refine wcall (c83 _ _ _) ?_
  simp -failIfUnchanged (disch := first|omega|(simp<;>omega)|fail) only [go_sem,simprocAttr]
  refine WGd_bool (fun h2 => ?_) (fun h2 => ?_)
  ·simp -failIfUnchanged (disch := first|omega|(simp<;>omega)|fail) only [go_sem,simprocAttr, h2]
   refine WGd_bool (fun h3 => ?_) (fun h3 => ?_)
   ·simp -failIfUnchanged (disch := first|omega|(simp<;>omega)|fail) only [go_sem,simprocAttr, h3]
    refine wcall (c116 b.cords 114 _ (fun l => !isCordB b l) (fun x hx => c114 b x (hs.each x hx)) hs.cords) ?_
    simp -failIfUnchanged (disch := first|omega|(simp<;>omega)|fail) only [go_sem,simprocAttr]
    refine WGd_bool (fun h4 => ?_) (fun h4 => ?_)
    ·simp -failIfUnchanged (disch := first|omega|(simp<;>omega)|fail) only [go_sem,simprocAttr, h4]
     refine wcall (c114 b b.top hs.top) ?_
     simp -failIfUnchanged (disch := first|omega|(simp<;>omega)|fail) only [go_sem,simprocAttr]
     refine wcond_bool (fun h5 => ?_) (fun h5 => ?_)
     ·simp -failIfUnchanged (disch := first|omega|(simp<;>omega)|fail) only [go_sem,simprocAttr]
      simp_all [checkB]
     ·simp -failIfUnchanged (disch := first|omega|(simp<;>omega)|fail) only [go_sem,simprocAttr]
      simp_all [checkB]
    ·simp -failIfUnchanged (disch := first|omega|(simp<;>omega)|fail) only [go_sem,simprocAttr, h4]
     simp_all [checkB]
     intro ha
     obtain ⟨x, hx, hx2⟩ := h4
     simp [ha x hx] at hx2
   ·simp -failIfUnchanged (disch := first|omega|(simp<;>omega)|fail) only [go_sem,simprocAttr, h3]
    simp_all [checkB]
    intro hc
    omega
  ·simp -failIfUnchanged (disch := first|omega|(simp<;>omega)|fail) only [go_sem,simprocAttr, h2]
   simp_all [checkB]
 ·simp -failIfUnchanged (disch := first|omega|(simp<;>omega)|fail) only [go_sem,simprocAttr, h1]
  simp_all [checkB]
end Go.Proofs.YtpangdaijhiohaaGreatDoor.Kn

set_option linter.unusedSimpArgs false
set_option linter.unusedVariables false
set_option linter.unnecessarySimpa false
namespace Go.Proofs.YtpangdaijhiohaaGreatDoor.Kn
open Go Go.V
structure Wy where
 k : Int
 r : Int
 deriving Inhabited, DecidableEq
def wcs : List Wy → List AV
 | [] => []
 | w :: l => .int w.k :: .int w.r :: wcs l
abbrev WS (ws : List Wy) : AV := .agg (wcs ws)
theorem wcs_len (ws : List Wy) : (wcs ws).length = 2 * ws.length := by
 induction ws with
 | nil => rfl
 | cons w l ih => simp only [wcs, List.length_cons, ih]; omega
theorem zeros_wcs (n : Nat) : zeros [.int 0, .int 0] n = wcs (List.replicate n ⟨0, 0⟩) := by
 induction n with
 | zero => rfl
 | succ n ih => simp only [zeros, List.replicate_succ, wcs, ih]; rfl
theorem wcs_get0 {ws : List Wy} {i : Nat} (h : i < ws.length) : (wcs ws)[i * 2]?.getD .und = .int (ws[i]?.getD default).k := by
 induction ws generalizing i with
 | nil => simp at h
 | cons w l ih =>
  cases i with
  | zero => rfl
  | succ i =>
   rw [show (i + 1) * 2 = i * 2 + 2 by omega]
   simp only [wcs, List.getElem?_cons_succ]
   exact ih (by simpa using h)
theorem wcs_get1 {ws : List Wy} {i : Nat} (h : i < ws.length) : (wcs ws)[i * 2 + 1]?.getD .und = .int (ws[i]?.getD default).r := by
 induction ws generalizing i with
 | nil => simp at h
 | cons w l ih =>
  cases i with
  | zero => rfl
  | succ i =>
   rw [show (i + 1) * 2 + 1 = i * 2 + 1 + 2 by omega]
   simp only [wcs, List.getElem?_cons_succ]
   exact ih (by simpa using h)
theorem wcs_take2 {ws : List Wy} {i : Nat} (h : i < ws.length) : ((wcs ws).drop (i * 2)).take 2 = [.int (ws[i]?.getD default).k, .int (ws[i]?.getD default).r] := by
 induction ws generalizing i with
 | nil => simp at h
 | cons w l ih =>
  cases i with
  | zero => rfl
  | succ i =>
   rw [show (i + 1) * 2 = i * 2 + 2 by omega]
   simp only [wcs, List.drop_succ_cons, List.getElem?_cons_succ]
   exact ih (by simpa using h)
theorem wcs_take2z {ws : List Wy} (h : 0 < ws.length) : (wcs ws).take 2 = [.int (ws[0]?.getD default).k, .int (ws[0]?.getD default).r] := wcs_take2 (i := 0) h
theorem wcs_all {ws : List Wy} {n : Nat} (h : 2 * ws.length ≤ n) : (wcs ws).take n = wcs ws := List.take_of_length_le (by rw [wcs_len]; exact h)
theorem wcs_map {ws : List Wy} {hp : List (Nat × BX)} : (wcs ws).map (strip hp) = wcs ws := by
 induction ws with
 | nil => rfl
 | cons w l ih => simp only [wcs, List.map_cons, ih, strip_int]
theorem wcs_bids {ws : List Wy} : bids (wcs ws) = [] := by
 induction ws with
 | nil => rfl
 | cons w l ih => simp only [wcs, bids, AV.bid, AV.bid1, ih, List.append_nil]
theorem setAt_wcs0 {ws : List Wy} {i : Nat} {x : Int} (h : i < ws.length) : setAt (wcs ws) (i * 2) [.int x] = wcs (ws.set i ⟨x, (ws[i]?.getD default).r⟩) := by
 induction ws generalizing i with
 | nil => simp at h
 | cons w l ih =>
  cases i with
  | zero => rfl
  | succ i =>
   rw [show (i + 1) * 2 = i * 2 + 1 + 1 by omega]
   simp only [wcs, setAt, List.set_cons_succ, List.getElem?_cons_succ]
   rw [ih (by simpa using h)]
theorem setAt_wcs1 {ws : List Wy} {i : Nat} {x : Int} (h : i < ws.length) : setAt (wcs ws) (i * 2 + 1) [.int x] = wcs (ws.set i ⟨(ws[i]?.getD default).k, x⟩) := by
 induction ws generalizing i with
 | nil => simp at h
 | cons w l ih =>
  cases i with
  | zero => rfl
  | succ i =>
   rw [show (i + 1) * 2 + 1 = (i * 2 + 1) + 1 + 1 by omega]
   simp only [wcs, setAt, List.set_cons_succ, List.getElem?_cons_succ]
   rw [ih (by simpa using h)]
theorem setAt_wcs2 {ws : List Wy} {i : Nat} {x y : Int} (h : i < ws.length) : setAt (wcs ws) (i * 2) [.int x, .int y] = wcs (ws.set i ⟨x, y⟩) := by
 induction ws generalizing i with
 | nil => simp at h
 | cons w l ih =>
  cases i with
  | zero => rfl
  | succ i =>
   rw [show (i + 1) * 2 = i * 2 + 1 + 1 by omega]
   simp only [wcs, setAt, List.set_cons_succ]
   rw [ih (by simpa using h)]
theorem setAt_wcs2z {ws : List Wy} {x y : Int} (h : 0 < ws.length) : setAt (wcs ws) 0 [.int x, .int y] = wcs (ws.set 0 ⟨x, y⟩) := setAt_wcs2 (i := 0) h
theorem setAt_wcsA {ws us : List Wy} (h : ws.length ≤ us.length) : setAt (wcs ws) 0 (wcs us) = wcs us := by
 rw [setAt_0, List.drop_eq_nil_of_le (by rw [wcs_len, wcs_len]; omega), List.append_nil]
theorem ag182 : aggOf Tryz.prog 182 = some true := by kernel_rfl
theorem sz182 : szOf Tryz.prog 182 = some 102 := by kernel_rfl
theorem out1_eq {P : Program} {fr : List (Nat × AV)} {hp : List (Nat × BX)} {tk : List (Nat × Nat)} {pd : Option Ex} {t : Nat} {ty : TypeId} : out1 P ⟨fr, hp, tk, pd⟩ (.cell t ty) = (match get fr t with
  | .ptr b 0 => match getB hp b with
   | some ⟨cells, true⟩ => match aggOf P ty with
    | some true => if szOf P ty = some cells.length then .agg cells else .und
    | some false => match cells with
     | [x] => x
     | _ => .und
    | none => .und
   | _ => .und
  | _ => .und) := rfl
theorem if_len {ws : List Wy} {x y : AV} (h : ws.length = 51) : (if some 102 = some (2 * ws.length) then x else y) = x := by rw [h]; rfl
theorem scopes_wcs {τ : AS} {ws : List Wy} : scopes τ (wcs ws) = True := by
 induction ws with
 | nil => rfl
 | cons w l ih => simp only [wcs, scopes, inScope, ih, and_self]
theorem wcs_len51 {ws : List Wy} (h : ws.length = 51) : (2 * ws.length = 102) = True := by simp [h]
theorem drop_wcs {ws : List Wy} {k : Nat} (h : 2 * ws.length ≤ k) : (wcs ws).drop k = [] := List.drop_eq_nil_of_le (by rw [wcs_len]; exact h)
theorem if_len' {ws : List Wy} {x y : AV} (h : ws.length = 51) : (if 102 = 2 * ws.length then x else y) = x := by rw [h]; rfl
attribute [go_sem] wcs_take2z setAt_wcs2z drop_wcs if_len' wcs_len51 scopes_wcs wcs_len zeros_wcs wcs_get0 wcs_get1 wcs_take2 wcs_all wcs_map wcs_bids setAt_wcs0 setAt_wcs1 setAt_wcs2 setAt_wcsA ag182 sz182 out1_eq if_len List.length_replicate List.length_set
attribute [go_sem ↓] setAt_wcs0 setAt_wcs1 setAt_wcs2 setAt_wcsA
def emptyL (sum : Nat) : List Wy := (List.replicate 51 ⟨1048576, 0⟩).set sum ⟨0, 1⟩
theorem c133 (n : Nat) (hn : n < 51) : Ctr Tryz.prog 133 [.int n] (WS (emptyL n)) := by
 refine ctr_of_wp hmix Tryz.func133 m133 rfl ?_
 unfold v133
 simp -failIfUnchanged (disch := first|omega|(simp [wcs_len]<;>omega)|fail) only [go_sem,simprocAttr]
 refine wp_loop' (Nat × List Wy) (fun x => ⟨[(0, .int n), (2, .ptr 2 0), (4, .int x.1)], [(2, ⟨wcs x.2, false⟩)], [], none⟩) (fun x => x.1 ≤ 51 ∧ x.2 = List.replicate x.1 ⟨1048576, 0⟩ ++ List.replicate (51 - x.1) ⟨0, 0⟩) (fun x => 51 - x.1) (0, List.replicate 51 ⟨0, 0⟩) (by simp) (by simp -failIfUnchanged (disch := first|omega|(simp [wcs_len]<;>omega)|fail) only [go_sem,simprocAttr]; try simp) ?_
 rintro ⟨i, ws⟩ ⟨hi, hws⟩
 dsimp only at hi hws ⊢
 have hlen : ws.length = 51 := by rw [hws]; simp; omega
 simp -failIfUnchanged (disch := first|omega|(simp [wcs_len]<;>omega)|fail) only [go_sem,simprocAttr]
 refine wcond_dec (fun h => ?_) (fun h => ?_)
 ·simp -failIfUnchanged (disch := first|omega|(simp [wcs_len]<;>omega)|fail) only [go_sem,simprocAttr]
  refine ⟨(i + 1, ws.set i ⟨1048576, 0⟩), ⟨by omega, ?_⟩, by dsimp only; omega, ?_⟩
  ·rw [hws]
   apply List.ext_getElem?
   intro j
   simp only [List.getElem?_set, List.getElem?_append, List.getElem?_replicate, List.length_replicate, List.length_append]
   repeat' split
   all_goals (first | rfl | omega)
  ·have : (ws[i]?.getD default).r = 0 := by
    rw [hws, List.getElem?_append_right (by simp)]
    have h0 : 0 < 51 - i := by omega
    simp [List.getElem?_replicate, h0]
   rw [this]
   simp -failIfUnchanged (disch := first|omega|(simp [wcs_len]<;>omega)|fail) only [go_sem,simprocAttr]
   try simp
 ·simp -failIfUnchanged (disch := first|omega|(simp [wcs_len]<;>omega)|fail) only [go_sem,simprocAttr]
  have hi2 : i = 51 := by omega
  subst hi2
  simp only [Nat.sub_self, List.replicate_zero, List.append_nil] at hws
  rw [hws]
  rfl
end Go.Proofs.YtpangdaijhiohaaGreatDoor.Kn

set_option linter.unusedSimpArgs false
set_option linter.unusedVariables false
set_option linter.unnecessarySimpa false
namespace Go.Proofs.YtpangdaijhiohaaGreatDoor.Kn
open Go Go.V
abbrev LM (b : Bk) (may carry : AV) : AV := .agg [.int b.base, .int b.places, .sl 1 (b.cords.map SS) .sh, SS b.top, may, carry]
def costL (s : Sp) (d : Int) : Int := max (max 0 (s.lo - d)) (d - s.hi)
def addN (d : Nat) (cost : Int) (s : List Wy) (out : List Wy) (n : Nat) : List Wy :=
 out.set (n + d) ⟨min (out[n + d]?.getD default).k ((s[n]?.getD default).k + cost), if cost = 0 then w64 ((out[n + d]?.getD default).r + (s[n]?.getD default).r) else (out[n + d]?.getD default).r⟩
def addD (d : Nat) (cost : Int) (s : List Wy) (out : List Wy) : List Wy := (List.range (51 - d)).foldl (addN d cost s) out
def moreL (base : Nat) (may : Nat → Bool) (cost : Nat → Int) (s : List Wy) : List Wy :=
 (List.range base).foldl (fun out d => if may d then addD d (cost d) s out else out) ((emptyL 0).set 0 ⟨1048576, 0⟩)
structure Okw (s : List Wy) : Prop where
 len : s.length = 51
 k0 : ∀ i, i < 51 → 0 ≤ (s[i]?.getD default).k
 k1 : ∀ i, i < 51 → (s[i]?.getD default).k ≤ 1048576
theorem okw_empty {n : Nat} : Okw (emptyL n) := by
 have hl : (emptyL n).length = 51 := by simp [emptyL]
 refine ⟨hl, fun i hi => ?_, fun i hi => ?_⟩ <;>
 ·simp only [emptyL, List.getElem?_set, List.getElem?_replicate, List.length_replicate]
  repeat' split
  all_goals (first | (simp; done) | omega)
theorem okw_set {s : List Wy} (h : Okw s) {i : Nat} {w : Wy} (h0 : 0 ≤ w.k) (h1 : w.k ≤ 1048576) : Okw (s.set i w) := by
 refine ⟨by simp [h.len], fun j hj => ?_, fun j hj => ?_⟩
 ·rw [List.getElem?_set]
  have := h.k0 j hj
  repeat' split
  all_goals (first | (simpa using h0) | (simpa using this) | (have := h.len; omega))
 ·rw [List.getElem?_set]
  have := h.k1 j hj
  repeat' split
  all_goals (first | (simpa using h1) | (simpa using this) | (have := h.len; omega))
theorem okw_addN {d : Nat} {cost : Int} {s out : List Wy} {n : Nat} (hs : Okw s) (ho : Okw out) (hc : 0 ≤ cost) (hn : n + d < 51) : Okw (addN d cost s out n) := by
 unfold addN
 have a := hs.k0 n (by omega)
 have b := ho.k0 (n + d) hn
 have c := ho.k1 (n + d) hn
 exact okw_set ho (by dsimp only; omega) (by dsimp only; omega)
theorem okw_addD {d : Nat} {cost : Int} {s out : List Wy} (hs : Okw s) (ho : Okw out) (hc : 0 ≤ cost) : ∀ m, m + d ≤ 51 → Okw ((List.range m).foldl (addN d cost s) out)
 | 0, _ => ho
 | m + 1, h => by
  rw [List.range_succ, List.foldl_append]
  exact okw_addN hs (okw_addD hs ho hc m (by omega)) hc (by omega)
theorem c134 (b : Bk) (g g2 : Nat) (caps caps2 : List AV) (may : Nat → Bool) (s : List Wy) (c p : Nat) (l : List Sp) (sp : Sp)
  (hb0 : 0 ≤ b.base) (hb1 : b.base ≤ 10) (hc : b.cords[c]? = some l) (hp : l[p]? = some sp) (h1 : 0 ≤ sp.lo ∧ sp.lo ≤ 1000) (h2 : 0 ≤ sp.hi ∧ sp.hi ≤ 1000)
  (hmay : ∀ d : Nat, d < b.base.toNat → Ctr Tryz.prog g ([.int c, .int p, .int d] ++ caps) (.bool (may d))) (hs : Okw s) :
  Ctr Tryz.prog 134 [LM b (.clo g [] caps) (.clo g2 [] caps2), WS s, .int c, .int p] (WS (moreL b.base.toNat may (fun d => costL sp d) s)) := by
 refine ctr_of_wp hmix Tryz.func134 m134 rfl ?_
 unfold v134
 have hsl := hs.len
 obtain ⟨B, hB⟩ : ∃ B : Nat, b.base = B := ⟨b.base.toNat, by omega⟩
 have hcl2 : c < b.cords.length := (List.getElem?_eq_some_iff.1 hc).1
 have hpl : p < l.length := (List.getElem?_eq_some_iff.1 hp).1
 rw [hB] at hb0 hb1 hmay ⊢
 simp only [Int.toNat_natCast] at hmay ⊢
 simp -failIfUnchanged (disch := first|omega|(simp [wcs_len]<;>omega)|fail) only [go_sem,simprocAttr]
 refine wcall (c133 0 (by omega)) ?_
 have he : (emptyL 0).length = 51 := okw_empty.len
 simp -failIfUnchanged (disch := first|omega|(simp [wcs_len]<;>omega)|fail) only [go_sem,simprocAttr]
 have hz : Okw ((emptyL 0).set 0 ⟨1048576, 0⟩) := okw_set okw_empty (by simp) (by simp)
 refine wp_loop' (Nat × List Wy) (fun x => ⟨[(2, .int c), (3, .int p), (4, .ptr 4 0), (5, .ptr 5 0), (8, .ptr 8 0), (9, .ptr 9 0), (20, .int B), (21, .int x.1)],
  [(9, ⟨wcs x.2, false⟩), (8, ⟨wcs (List.replicate 51 ⟨0, 0⟩), false⟩), (5, ⟨wcs s, false⟩), (4, ⟨[.int B, .int b.places, .sl 1 (b.cords.map SS) .sh, SS b.top, .clo g [] caps, .clo g2 [] caps2], false⟩)], [], none⟩)
  (fun x => x.1 ≤ B ∧ x.2 = (List.range x.1).foldl (fun out d => if may d then addD d (costL sp d) s out else out) ((emptyL 0).set 0 ⟨1048576, 0⟩) ∧ Okw x.2) (fun x => B - x.1) (0, (emptyL 0).set 0 ⟨1048576, 0⟩) ⟨by simp, rfl, hz⟩ ?_ ?_
 ·simp -failIfUnchanged (disch := first|omega|(simp [wcs_len]<;>omega)|fail) only [go_sem,simprocAttr]
  first | exact ⟨⟨hB, rfl⟩, by rw [hB]⟩ | exact hB | simp [hB]
 ·rintro ⟨d, out⟩ ⟨hd, hout, hok⟩
  dsimp only at hd hout hok ⊢
  have hol := hok.len
  simp -failIfUnchanged (disch := first|omega|(simp [wcs_len]<;>omega)|fail) only [go_sem,simprocAttr]
  refine wcond_dec (fun h => ?_) (fun h => ?_)
  ·simp -failIfUnchanged (disch := first|omega|(simp [wcs_len]<;>omega)|fail) only [go_sem,simprocAttr]
   refine wcall (hmay d (by omega)) ?_
   simp -failIfUnchanged (disch := first|omega|(simp [wcs_len]<;>omega)|fail) only [go_sem,simprocAttr]
   refine wcond_bool (fun hm => ?_) (fun hm => ?_)
   ·simp -failIfUnchanged (disch := first|omega|(simp [wcs_len]<;>omega)|fail) only [go_sem,simprocAttr]
    refine ⟨(d + 1, out), ⟨by omega, ?_, hok⟩, by dsimp only; omega, ?_⟩
    ·have hm2 : may d = false := by simpa using hm
     dsimp only
     rw [List.range_succ, List.foldl_append, hout]
     simp [hm2]
    ·simp -failIfUnchanged (disch := first|omega|(simp [wcs_len]<;>omega)|fail) only [go_sem,simprocAttr]
     simp
   ·have hm2 : may d = true := by simpa using hm
    have e1 : (b.cords[c]?.getD default) = l := by rw [hc]; rfl
    have e2 : (l[p]?.getD default) = sp := by rw [hp]; rfl
    simp -failIfUnchanged (disch := first|omega|(simp [wcs_len]<;>omega)|fail) only [go_sem,simprocAttr, e1, e2]
    refine wcall (c88 sp d h1 h2 (by omega)) ?_
    simp -failIfUnchanged (disch := first|omega|(simp [wcs_len]<;>omega)|fail) only [go_sem,simprocAttr]
    have hcost : 0 ≤ costL sp d := by unfold costL; omega
    have hcost2 : costL sp d ≤ 2000 := by unfold costL; omega
    rw [show max (max 0 (sp.lo - (d : Int))) ((d : Int) - sp.hi) = costL sp d from rfl]
    generalize hcd : costL sp d = co at hcost hcost2
    refine wp_loop' (Nat × List Wy) (fun x => ⟨[(2, .int c), (3, .int p), (4, .ptr 4 0), (5, .ptr 5 0), (8, .ptr 8 0), (9, .ptr 9 0), (10, .int d), (11, .int co), (20, .int B), (21, .int d), (44, .bsl 5 0 2 (51 - (d : Int)).toNat true), (45, .int ((51 - (d : Int)).toNat : Nat)), (46, .int x.1)],
     [(9, ⟨wcs x.2, false⟩), (8, ⟨wcs (List.replicate 51 ⟨0, 0⟩), false⟩), (5, ⟨wcs s, false⟩), (4, ⟨[.int B, .int b.places, .sl 1 (b.cords.map SS) .sh, SS b.top, .clo g [] caps, .clo g2 [] caps2], false⟩)], [], none⟩)
     (fun x => x.1 ≤ 51 - d ∧ x.2 = (List.range x.1).foldl (addN d co s) out ∧ Okw x.2) (fun x => 51 - x.1) (0, out) ⟨by simp, rfl, hok⟩ (by simp -failIfUnchanged (disch := first|omega|(simp [wcs_len]<;>omega)|fail) only [go_sem,simprocAttr]; try simp) ?_
    rintro ⟨n, u⟩ ⟨hn, hu, huk⟩
    dsimp only at hn hu huk ⊢
    have hul := huk.len
    simp -failIfUnchanged (disch := first|omega|(simp [wcs_len]<;>omega)|fail) only [go_sem,simprocAttr]
    refine wcond_dec (fun hl => ?_) (fun hl => ?_)
    ·have hnd : n + d < 51 := by omega
     simp -failIfUnchanged (disch := first|omega|(simp [wcs_len]<;>omega)|fail) only [go_sem,simprocAttr]
     have ku0 := huk.k0 (n + d) hnd
     have ku1 := huk.k1 (n + d) hnd
     have ks0 := hs.k0 n (by omega)
     have ks1 := hs.k1 n (by omega)
     refine wcond_dec (fun hco => ?_) (fun hco => ?_)
     ·simp -failIfUnchanged (disch := first|omega|(simp [wcs_len]<;>omega)|fail) only [go_sem,simprocAttr]
      refine ⟨(n + 1, addN d co s u n), ⟨by omega, by rw [List.range_succ, List.foldl_append, ← hu]; rfl, okw_addN hs huk hcost hnd⟩, by dsimp only; omega, ?_⟩
      simp -failIfUnchanged (disch := first|omega|(simp [wcs_len]<;>omega)|fail) only [go_sem,simprocAttr]
      have eg : ∀ x : Wy, (u.set (n + d) x)[n + d]?.getD default = x := fun x => by simp [hul, hnd]
      simp only [addN, hco, if_true, eg, List.set_set]
      simp
     ·simp -failIfUnchanged (disch := first|omega|(simp [wcs_len]<;>omega)|fail) only [go_sem,simprocAttr]
      refine ⟨(n + 1, addN d co s u n), ⟨by omega, by rw [List.range_succ, List.foldl_append, ← hu]; rfl, okw_addN hs huk hcost hnd⟩, by dsimp only; omega, ?_⟩
      simp -failIfUnchanged (disch := first|omega|(simp [wcs_len]<;>omega)|fail) only [go_sem,simprocAttr]
      simp [addN, hco]
    ·simp -failIfUnchanged (disch := first|omega|(simp [wcs_len]<;>omega)|fail) only [go_sem,simprocAttr]
     have en : n = 51 - d := by omega
     refine ⟨(d + 1, u), ⟨by omega, ?_, huk⟩, by dsimp only; omega, ?_⟩
     ·dsimp only
      rw [List.range_succ, List.foldl_append, ← hout, hu, en]
      simp only [List.foldl_cons, List.foldl_nil, hm2, if_true, hcd]
      rfl
     ·simp -failIfUnchanged (disch := first|omega|(simp [wcs_len]<;>omega)|fail) only [go_sem,simprocAttr]
      simp
  ·simp -failIfUnchanged (disch := first|omega|(simp [wcs_len]<;>omega)|fail) only [go_sem,simprocAttr]
   have ed : d = B := by omega
   rw [hout, ed]
   rfl
end Go.Proofs.YtpangdaijhiohaaGreatDoor.Kn

set_option linter.unusedSimpArgs false
set_option linter.unusedVariables false
set_option linter.unnecessarySimpa false
namespace Go.Proofs.YtpangdaijhiohaaGreatDoor.Kn
open Go Go.V
structure Val (b : Bk) : Prop where
 hb : 2 ≤ b.base ∧ b.base ≤ 10
 hp : 1 ≤ b.places ∧ b.places ≤ 4
 hc : b.cords.length ≤ 4
 cord : ∀ l ∈ b.cords, (l.length : Int) = b.places ∧ ∀ s ∈ l, 0 ≤ s.lo ∧ s.lo ≤ s.hi ∧ s.hi < b.base
 top : (b.top.length : Int) = b.places ∧ ∀ s ∈ b.top, 0 ≤ s.lo ∧ s.lo ≤ s.hi ∧ s.hi < b.base
def spAt (b : Bk) (c p : Nat) : Sp := (b.cords[c]?.getD default)[p]?.getD default
def topAt (b : Bk) (p : Nat) : Sp := b.top[p]?.getD default
def colL (b : Bk) (may : Nat → Nat → Nat → Bool) (p : Nat) (s : List Wy) (m : Nat) : List Wy :=
 (List.range m).foldl (fun s c => moreL b.base.toNat (may c p) (fun d => costL (spAt b c p) d) s) s
def topN (b : Bk) (may : Nat → Nat → Nat → Bool) (carry : Nat → Nat → Bool) (p : Nat) (s : List Wy) (now : List Wy) (n : Nat) : List Wy :=
 if may b.cords.length p (n % b.base.toNat) && carry p (n / b.base.toNat) then
  now.set (n / b.base.toNat) ⟨min (now[n / b.base.toNat]?.getD default).k ((s[n]?.getD default).k + costL (topAt b p) ((n % b.base.toNat : Nat) : Int)),
   if costL (topAt b p) ((n % b.base.toNat : Nat) : Int) = 0 then w64 ((now[n / b.base.toNat]?.getD default).r + (s[n]?.getD default).r) else (now[n / b.base.toNat]?.getD default).r⟩
 else now
def stepL (b : Bk) (may : Nat → Nat → Nat → Bool) (carry : Nat → Nat → Bool) (p : Nat) (now : List Wy) : List Wy :=
 (List.range 51).foldl (topN b may carry p (colL b may p now b.cords.length)) ((emptyL 0).set 0 ⟨1048576, 0⟩)
def solveF (b : Bk) (may : Nat → Nat → Nat → Bool) (carry : Nat → Nat → Bool) : Nat → List Wy → List Wy
 | 0, now => now
 | q + 1, now => solveF b may carry q (stepL b may carry q now)
def solveL (b : Bk) (may : Nat → Nat → Nat → Bool) (carry : Nat → Nat → Bool) : Wy := (solveF b may carry b.places.toNat (emptyL 0))[0]?.getD default
theorem okw_moreL {base : Nat} {may : Nat → Bool} {cost : Nat → Int} {s : List Wy} (hs : Okw s) (hb : base ≤ 10) (hc : ∀ d, 0 ≤ cost d) : Okw (moreL base may cost s) := by
 have : ∀ m, m ≤ base → Okw ((List.range m).foldl (fun out d => if may d then addD d (cost d) s out else out) ((emptyL 0).set 0 ⟨1048576, 0⟩)) := by
  intro m
  induction m with
  | zero => intro _; exact okw_set okw_empty (by simp) (by simp)
  | succ m ih =>
   intro hm
   rw [List.range_succ, List.foldl_append]
   simp only [List.foldl_cons, List.foldl_nil]
   split
   ·exact okw_addD hs (ih (by omega)) (hc m) (51 - m) (by omega)
   ·exact ih (by omega)
 exact this base (Nat.le_refl _)
theorem costL_nonneg (s : Sp) (d : Int) : 0 ≤ costL s d := by unfold costL; omega
theorem okw_colL {b : Bk} {may : Nat → Nat → Nat → Bool} {p : Nat} {s : List Wy} (hs : Okw s) (hb : b.base.toNat ≤ 10) : ∀ m, Okw (colL b may p s m)
 | 0 => hs
 | m + 1 => by
  unfold colL
  rw [List.range_succ, List.foldl_append]
  exact okw_moreL (okw_colL hs hb m) hb (fun d => costL_nonneg _ _)
theorem okw_topN {b : Bk} {may : Nat → Nat → Nat → Bool} {carry : Nat → Nat → Bool} {p : Nat} {s now : List Wy} {n : Nat} (hs : Okw s) (ho : Okw now) (hn : n < 51) : Okw (topN b may carry p s now n) := by
 unfold topN
 split
 ·have hq : n / b.base.toNat ≤ n := Nat.div_le_self _ _
  have a := hs.k0 n hn
  have h0 := ho.k0 (n / b.base.toNat) (by omega)
  have h1 := ho.k1 (n / b.base.toNat) (by omega)
  have hc := costL_nonneg (topAt b p) ((n % b.base.toNat : Nat) : Int)
  exact okw_set ho (by dsimp only; omega) (by dsimp only; omega)
 ·exact ho
theorem okw_stepL {b : Bk} {may : Nat → Nat → Nat → Bool} {carry : Nat → Nat → Bool} {p : Nat} {now : List Wy} (hs : Okw now) (hb : b.base.toNat ≤ 10) : ∀ m, m ≤ 51 → Okw ((List.range m).foldl (topN b may carry p (colL b may p now b.cords.length)) ((emptyL 0).set 0 ⟨1048576, 0⟩))
 | 0, _ => okw_set okw_empty (by simp) (by simp)
 | m + 1, h => by
  rw [List.range_succ, List.foldl_append]
  exact okw_topN (okw_colL hs hb _) (okw_stepL hs hb m (by omega)) (by omega)
theorem ag138 : aggOf Tryz.prog 138 = some true := by kernel_rfl
theorem sz138 : szOf Tryz.prog 138 = some 2 := by kernel_rfl
attribute [go_sem] ag138 sz138
theorem c85 (b : Bk) (hv : Val b) (g g2 : Nat) (caps caps2 : List AV) (may : Nat → Nat → Nat → Bool) (carry : Nat → Nat → Bool)
  (hmay : ∀ c p d : Nat, c ≤ b.cords.length → p < b.places.toNat → d < b.base.toNat → Ctr Tryz.prog g ([.int c, .int p, .int d] ++ caps) (.bool (may c p d)))
  (hcarry : ∀ p n : Nat, p < b.places.toNat → n ≤ 50 → Ctr Tryz.prog g2 ([.int p, .int n] ++ caps2) (.bool (carry p n))) :
  Ctr Tryz.prog 85 [LM b (.clo g [] caps) (.clo g2 [] caps2)] (.agg [.int (solveL b may carry).k, .int (solveL b may carry).r]) := by
 refine ctr_of_wp hmix Tryz.func85 m85 rfl ?_
 unfold v85
 obtain ⟨hb1, hb2⟩ := hv.hb
 obtain ⟨hp1, hp2⟩ := hv.hp
 have hc4 := hv.hc
 obtain ⟨B, hB⟩ : ∃ B : Nat, b.base = B := ⟨b.base.toNat, by omega⟩
 obtain ⟨PL, hPL⟩ : ∃ p : Nat, b.places = p := ⟨b.places.toNat, by omega⟩
 have hBn : b.base.toNat = B := by omega
 have hPn : b.places.toNat = PL := by omega
 have he : (emptyL 0).length = 51 := okw_empty.len
 simp -failIfUnchanged (disch := first|omega|(simp [wcs_len]<;>omega)|fail) only [go_sem,simprocAttr]
 refine wcall (c133 0 (by omega)) ?_
 simp -failIfUnchanged (disch := first|omega|(simp [wcs_len]<;>omega)|fail) only [go_sem,simprocAttr]
 refine wp_loop' (Nat × List Wy) (fun x => ⟨[(1, .ptr 1 0), (2, .ptr 2 0), (3, .ptr 3 0), (4, .int ((x.1 : Int) - 1))],
  [(3, ⟨wcs x.2, false⟩), (2, ⟨[.int 0, .int 0], false⟩), (1, ⟨[.int b.base, .int b.places, .sl 1 (b.cords.map SS) .sh, SS b.top, .clo g [] caps, .clo g2 [] caps2], false⟩)], [], none⟩)
  (fun x => x.1 ≤ PL ∧ solveF b may carry x.1 x.2 = solveF b may carry PL (emptyL 0) ∧ Okw x.2) (fun x => x.1) (PL, emptyL 0) ⟨by simp, rfl, okw_empty⟩ ?_ ?_
 ·simp -failIfUnchanged (disch := first|omega|(simp [wcs_len]<;>omega)|fail) only [go_sem,simprocAttr]
  omega
 ·rintro ⟨q, now⟩ ⟨hq, hnow, hok⟩
  dsimp only at hq hnow hok ⊢
  have hnl := hok.len
  simp -failIfUnchanged (disch := first|omega|(simp [wcs_len]<;>omega)|fail) only [go_sem,simprocAttr]
  refine wcond_dec (fun h => ?_) (fun h => ?_)
  ·obtain ⟨p, rfl⟩ : ∃ p, q = p + 1 := ⟨q - 1, by omega⟩
   rw [show ((p + 1 : Nat) : Int) - 1 = (p : Int) by omega]
   simp -failIfUnchanged (disch := first|omega|(simp [wcs_len]<;>omega)|fail) only [go_sem,simprocAttr]
   refine wp_loop' (Nat × List Wy) (fun x => ⟨[(1, .ptr 1 0), (2, .ptr 2 0), (3, .ptr 3 0), (4, .int p), (5, .ptr 5 0), (26, .int b.cords.length), (27, .int x.1)],
    [(5, ⟨wcs x.2, false⟩), (3, ⟨wcs now, false⟩), (2, ⟨[.int 0, .int 0], false⟩), (1, ⟨[.int b.base, .int b.places, .sl 1 (b.cords.map SS) .sh, SS b.top, .clo g [] caps, .clo g2 [] caps2], false⟩)], [], none⟩)
    (fun x => x.1 ≤ b.cords.length ∧ x.2 = colL b may p now x.1 ∧ Okw x.2) (fun x => b.cords.length - x.1) (0, now) ⟨by simp, rfl, hok⟩ (by simp -failIfUnchanged (disch := first|omega|(simp [wcs_len]<;>omega)|fail) only [go_sem,simprocAttr]; try simp) ?_
   rintro ⟨c, s⟩ ⟨hc, hs, hsk⟩
   dsimp only at hc hs hsk ⊢
   have hsl := hsk.len
   simp -failIfUnchanged (disch := first|omega|(simp [wcs_len]<;>omega)|fail) only [go_sem,simprocAttr]
   refine wcond_dec (fun hl => ?_) (fun hl => ?_)
   ·simp -failIfUnchanged (disch := first|omega|(simp [wcs_len]<;>omega)|fail) only [go_sem,simprocAttr]
    have hcl : c < b.cords.length := by omega
    have hcd := hv.cord b.cords[c] (List.getElem_mem hcl)
    have hpl : p < b.cords[c].length := by omega
    have hsp := hcd.2 _ (List.getElem_mem hpl)
    have esp : spAt b c p = b.cords[c][p] := by simp [spAt, hcl, hpl]
    refine wcall (c134 b g g2 caps caps2 (may c p) s c p b.cords[c] b.cords[c][p] (by omega) (by omega) (List.getElem?_eq_getElem hcl) (List.getElem?_eq_getElem hpl) (by omega) (by omega) (fun d hd => hmay c p d (by omega) (by omega) (by omega)) hsk) ?_
    have hml : (moreL b.base.toNat (may c p) (fun d => costL b.cords[c][p] d) s).length = 51 := (okw_moreL hsk (by omega) (fun d => costL_nonneg _ _)).len
    simp -failIfUnchanged (disch := first|omega|(simp [wcs_len]<;>omega)|fail) only [go_sem,simprocAttr]
    refine ⟨(c + 1, colL b may p now (c + 1)), ⟨by omega, rfl, okw_colL hok (by omega) _⟩, by dsimp only; omega, ?_⟩
    have ec : colL b may p now (c + 1) = moreL b.base.toNat (may c p) (fun d => costL b.cords[c][p] d) s := by
     unfold colL at hs ⊢
     rw [List.range_succ, List.foldl_append, ← hs]
     simp only [List.foldl_cons, List.foldl_nil, esp]
    rw [ec]
    simp -failIfUnchanged (disch := first|omega|(simp [wcs_len]<;>omega)|fail) only [go_sem,simprocAttr]
    try simp
   ·simp -failIfUnchanged (disch := first|omega|(simp [wcs_len]<;>omega)|fail) only [go_sem,simprocAttr]
    refine wcall (c133 0 (by omega)) ?_
    simp -failIfUnchanged (disch := first|omega|(simp [wcs_len]<;>omega)|fail) only [go_sem,simprocAttr]
    have ecl : c = b.cords.length := by omega
    rw [ecl] at hs
    have em : ∀ n : Nat, Int.tmod (n : Int) b.base = ((n % b.base.toNat : Nat) : Int) := fun n => by rw [hBn, hB]; rfl
    have eq : ∀ n : Nat, Int.tdiv (n : Int) b.base = ((n / b.base.toNat : Nat) : Int) := fun n => by rw [hBn, hB]; rfl
    refine wp_loop' (Nat × List Wy) (fun x => ⟨[(1, .ptr 1 0), (2, .ptr 2 0), (3, .ptr 3 0), (4, .int p), (39, .agg (wcs s)), (40, .int x.1)],
     [(3, ⟨wcs x.2, false⟩), (2, ⟨[.int 0, .int 0], false⟩), (1, ⟨[.int b.base, .int b.places, .sl 1 (b.cords.map SS) .sh, SS b.top, .clo g [] caps, .clo g2 [] caps2], false⟩)], [], none⟩)
     (fun x => x.1 ≤ 51 ∧ x.2 = (List.range x.1).foldl (topN b may carry p s) ((emptyL 0).set 0 ⟨1048576, 0⟩)) (fun x => 51 - x.1) (0, (emptyL 0).set 0 ⟨1048576, 0⟩) ⟨by simp, rfl⟩ (by simp -failIfUnchanged (disch := first|omega|(simp [wcs_len]<;>omega)|fail) only [go_sem,simprocAttr]; try simp) ?_
    rintro ⟨n, u⟩ ⟨hn, hu⟩
    dsimp only at hn hu ⊢
    have huk : Okw u := by
     rw [hu, hs]
     exact okw_stepL hok (by omega) n hn
    have hul := huk.len
    simp -failIfUnchanged (disch := first|omega|(simp [wcs_len]<;>omega)|fail) only [go_sem,simprocAttr]
    refine wcond_dec (fun hl2 => ?_) (fun hl2 => ?_)
    ·have hq1 : n / b.base.toNat ≤ n := Nat.div_le_self _ _
     have hq2 : n % b.base.toNat < b.base.toNat := Nat.mod_lt _ (by omega)
     have hn51 : n < 51 := by omega
     obtain ⟨dg, hdg⟩ : ∃ dg, n % b.base.toNat = dg := ⟨_, rfl⟩
     obtain ⟨ca, hca⟩ : ∃ ca, n / b.base.toNat = ca := ⟨_, rfl⟩
     rw [hdg] at hq2
     rw [hca] at hq1
     simp -failIfUnchanged (disch := first|omega|(simp [wcs_len]<;>omega)|fail) only [go_sem,simprocAttr, em, eq, hdg, hca]
     refine wcall (hmay b.cords.length p dg (by omega) (by omega) (by omega)) ?_
     simp -failIfUnchanged (disch := first|omega|(simp [wcs_len]<;>omega)|fail) only [go_sem,simprocAttr]
     have hnext : u = (List.range n).foldl (topN b may carry p s) ((emptyL 0).set 0 ⟨1048576, 0⟩) → topN b may carry p s u n = (List.range (n + 1)).foldl (topN b may carry p s) ((emptyL 0).set 0 ⟨1048576, 0⟩) := by
      intro hu
      rw [List.range_succ, List.foldl_append, ← hu]
      rfl
     refine WGd_bool (fun hm => ?_) (fun hm => ?_)
     ·simp -failIfUnchanged (disch := first|omega|(simp [wcs_len]<;>omega)|fail) only [go_sem,simprocAttr, hm]
      refine wcall (hcarry p ca (by omega) (by omega)) ?_
      simp -failIfUnchanged (disch := first|omega|(simp [wcs_len]<;>omega)|fail) only [go_sem,simprocAttr]
      refine wcond_bool (fun hk => ?_) (fun hk => ?_)
      ·simp -failIfUnchanged (disch := first|omega|(simp [wcs_len]<;>omega)|fail) only [go_sem,simprocAttr]
       have et : topN b may carry p s u n = u := by
        have hk2 : carry p ca = false := by simpa using hk
        simp [topN, hdg, hca, hk2]
       refine ⟨(n + 1, topN b may carry p s u n), ⟨by omega, hnext hu⟩, by dsimp only; omega, ?_⟩
       rw [et]
       simp -failIfUnchanged (disch := first|omega|(simp [wcs_len]<;>omega)|fail) only [go_sem,simprocAttr]
       try simp
      ·have hm2 : may b.cords.length p dg = true := by simpa using hm
       have hk2 : carry p ca = true := by simpa using hk
       have hpl : p < b.top.length := by have := hv.top.1; omega
       have htp := hv.top.2 _ (List.getElem_mem hpl)
       have etp : topAt b p = b.top[p] := by simp [topAt, hpl]
       have etp2 : b.top[p]?.getD default = b.top[p] := by simp [hpl]
       simp -failIfUnchanged (disch := first|omega|(simp [wcs_len]<;>omega)|fail) only [go_sem,simprocAttr, etp2]
       refine wcall (c88 b.top[p] dg (by omega) (by omega) (by omega)) ?_
       simp -failIfUnchanged (disch := first|omega|(simp [wcs_len]<;>omega)|fail) only [go_sem,simprocAttr]
       rw [show max (max 0 (b.top[p].lo - (dg : Int))) ((dg : Int) - b.top[p].hi) = costL b.top[p] dg from rfl]
       have hcost := costL_nonneg b.top[p] dg
       have hcost2 : costL b.top[p] dg ≤ 2000 := by unfold costL; omega
       have ku0 := huk.k0 ca (by omega)
       have ku1 := huk.k1 ca (by omega)
       have ks0 := hsk.k0 n (by omega)
       have ks1 := hsk.k1 n (by omega)
       generalize hco : costL b.top[p] dg = co at hcost hcost2
       simp -failIfUnchanged (disch := first|omega|(simp [wcs_len]<;>omega)|fail) only [go_sem,simprocAttr]
       have hca51 : ca < 51 := by omega
       refine wcond_dec (fun h0 => ?_) (fun h0 => ?_)
       ·simp -failIfUnchanged (disch := first|omega|(simp [wcs_len]<;>omega)|fail) only [go_sem,simprocAttr]
        refine ⟨(n + 1, topN b may carry p s u n), ⟨by omega, hnext hu⟩, by dsimp only; omega, ?_⟩
        simp -failIfUnchanged (disch := first|omega|(simp [wcs_len]<;>omega)|fail) only [go_sem,simprocAttr]
        have eg : ∀ x : Wy, (u.set ca x)[ca]?.getD default = x := fun x => by simp [hul, hca51]
        simp only [topN, hdg, hca, hm2, hk2, etp, hco, h0, Bool.and_self, if_true, eg, List.set_set]
        simp
       ·simp -failIfUnchanged (disch := first|omega|(simp [wcs_len]<;>omega)|fail) only [go_sem,simprocAttr]
        refine ⟨(n + 1, topN b may carry p s u n), ⟨by omega, hnext hu⟩, by dsimp only; omega, ?_⟩
        simp -failIfUnchanged (disch := first|omega|(simp [wcs_len]<;>omega)|fail) only [go_sem,simprocAttr]
        simp [topN, hdg, hca, hm2, hk2, etp, hco, h0]
     ·simp -failIfUnchanged (disch := first|omega|(simp [wcs_len]<;>omega)|fail) only [go_sem,simprocAttr, hm]
      have hm2 : may b.cords.length p dg = false := by simpa using hm
      have et : topN b may carry p s u n = u := by simp [topN, hdg, hca, hm2]
      refine ⟨(n + 1, topN b may carry p s u n), ⟨by omega, hnext hu⟩, by dsimp only; omega, ?_⟩
      rw [et]
      simp -failIfUnchanged (disch := first|omega|(simp [wcs_len]<;>omega)|fail) only [go_sem,simprocAttr]
      try simp
    ·simp -failIfUnchanged (disch := first|omega|(simp [wcs_len]<;>omega)|fail) only [go_sem,simprocAttr]
     have en : n = 51 := by omega
     rw [en, hs] at hu
     refine ⟨(p, u), ⟨by omega, ?_, huk⟩, by dsimp only; omega, ?_⟩
     ·dsimp only
      rw [← hnow, hu]
      rfl
     ·simp -failIfUnchanged (disch := first|omega|(simp [wcs_len]<;>omega)|fail) only [go_sem,simprocAttr]
  ·simp -failIfUnchanged (disch := first|omega|(simp [wcs_len]<;>omega)|fail) only [go_sem,simprocAttr]
   have e0 : q = 0 := by omega
   subst e0
   have : solveL b may carry = now[0]?.getD default := by
    unfold solveL
    rw [hPn, ← hnow]
    rfl
   rw [this]
end Go.Proofs.YtpangdaijhiohaaGreatDoor.Kn

set_option linter.unusedSimpArgs false
set_option linter.unusedVariables false
set_option linter.unnecessarySimpa false
namespace Go.Proofs.YtpangdaijhiohaaGreatDoor.Kn
open Go Go.V
theorem c117 (c p d : Int) : Ctr Tryz.prog 117 [.int c, .int p, .int d] (.bool true) := by
 refine ctr_of_wp hmix Tryz.func117 m117 rfl ?_
 unfold v117
 simp -failIfUnchanged (disch := first|omega|(simp [wcs_len]<;>omega)|fail) only [go_sem,simprocAttr]
theorem c118 (c p : Int) : Ctr Tryz.prog 118 [.int c, .int p] (.bool true) := by
 refine ctr_of_wp hmix Tryz.func118 m118 rfl ?_
 unfold v118
 simp -failIfUnchanged (disch := first|omega|(simp [wcs_len]<;>omega)|fail) only [go_sem,simprocAttr]
theorem ag112 : aggOf Tryz.prog 112 = some true := by kernel_rfl
theorem sz112 : szOf Tryz.prog 112 = some 6 := by kernel_rfl
attribute [go_sem] ag112 sz112
theorem c72 (b : Bk) : Ctr Tryz.prog 72 [KB b] (LM b (.clo 117 [] []) (.clo 118 [] [])) := by
 refine ctr_of_wp hmix Tryz.func72 m72 rfl ?_
 unfold v72
 simp -failIfUnchanged (disch := first|omega|(simp [wcs_len]<;>omega)|fail) only [go_sem,simprocAttr]
def onlyF (may : Nat → Nat → Nat → Bool) (cord place digit : Nat) (c p d : Nat) : Bool := may c p d && (decide (¬ c = cord) || (decide (¬ p = place) || decide (d = digit)))
abbrev capsO (g : Nat) (caps : List AV) (cord place digit : Nat) : List AV :=
 [.ref 1 [.agg [.clo g [] caps]] 0 0, .ref 1 [.agg [.int cord]] 0 0, .ref 1 [.agg [.int place]] 0 0, .ref 1 [.agg [.int digit]] 0 0]
theorem c109 (g : Nat) (caps : List AV) (may : Nat → Nat → Nat → Bool) (cord place digit c p d : Nat)
  (hmay : Ctr Tryz.prog g ([.int c, .int p, .int d] ++ caps) (.bool (may c p d))) :
  Ctr Tryz.prog 109 ([.int c, .int p, .int d] ++ capsO g caps cord place digit) (.bool (onlyF may cord place digit c p d)) := by
 refine ctr_of_wp hmix Tryz.func109 m109 rfl ?_
 unfold v109
 simp -failIfUnchanged (disch := first|omega|(simp [wcs_len]<;>omega)|fail) only [go_sem,simprocAttr]
 refine wcall hmay ?_
 simp -failIfUnchanged (disch := first|omega|(simp [wcs_len]<;>omega)|fail) only [go_sem,simprocAttr]
 refine WGd_bool (fun h1 => ?_) (fun h1 => ?_)
 ·simp -failIfUnchanged (disch := first|omega|(simp [wcs_len]<;>omega)|fail) only [go_sem,simprocAttr, h1]
  refine WGd_bool (fun h2 => ?_) (fun h2 => ?_)
  ·simp -failIfUnchanged (disch := first|omega|(simp [wcs_len]<;>omega)|fail) only [go_sem,simprocAttr, h1, h2]
   refine WGd_bool (fun h3 => ?_) (fun h3 => ?_)
   ·simp -failIfUnchanged (disch := first|omega|(simp [wcs_len]<;>omega)|fail) only [go_sem,simprocAttr, h1, h2, h3]
    simp only [decide_eq_false_iff_not, Decidable.not_not] at h2 h3
    have e2 : c = cord := by omega
    have e3 : p = place := by omega
    have e4 : ((d : Int) = (digit : Int)) ↔ d = digit := by omega
    rw [e2, e3] at h1
    simp [onlyF, h1, e2, e3, e4]
   ·simp -failIfUnchanged (disch := first|omega|(simp [wcs_len]<;>omega)|fail) only [go_sem,simprocAttr, h1, h2, h3]
    simp only [Bool.not_false, decide_eq_true_eq] at h3
    have e3 : ¬ p = place := by omega
    simp [onlyF, h1, e3]
  ·simp -failIfUnchanged (disch := first|omega|(simp [wcs_len]<;>omega)|fail) only [go_sem,simprocAttr, h1, h2]
   simp only [Bool.not_false, decide_eq_true_eq] at h2
   have e2 : ¬ c = cord := by omega
   simp [onlyF, h1, e2]
 ·simp -failIfUnchanged (disch := first|omega|(simp [wcs_len]<;>omega)|fail) only [go_sem,simprocAttr, h1]
  simp only [Bool.not_true] at h1
  simp [onlyF, h1]
theorem c64 (b : Bk) (g g2 : Nat) (caps caps2 : List AV) (cord place digit : Nat) : Ctr Tryz.prog 64 [LM b (.clo g [] caps) (.clo g2 [] caps2), .int cord, .int place, .int digit] (LM b (.clo 109 [] (capsO g caps cord place digit)) (.clo g2 [] caps2)) := by
 refine ctr_of_wp hmix Tryz.func64 m64 rfl ?_
 unfold v64
 simp -failIfUnchanged (disch := first|omega|(simp [wcs_len]<;>omega)|fail) only [go_sem,simprocAttr]
theorem c73 (b : Bk) (hv : Val b) (g g2 : Nat) (caps caps2 : List AV) (may : Nat → Nat → Nat → Bool) (carry : Nat → Nat → Bool)
  (hmay : ∀ c p d : Nat, c ≤ b.cords.length → p < b.places.toNat → d < b.base.toNat → Ctr Tryz.prog g ([.int c, .int p, .int d] ++ caps) (.bool (may c p d)))
  (hcarry : ∀ p n : Nat, p < b.places.toNat → n ≤ 50 → Ctr Tryz.prog g2 ([.int p, .int n] ++ caps2) (.bool (carry p n))) :
  Ctr Tryz.prog 73 [LM b (.clo g [] caps) (.clo g2 [] caps2)] (.int (solveL b may carry).r) := by
 refine ctr_of_wp hmix Tryz.func73 m73 rfl ?_
 unfold v73
 simp -failIfUnchanged (disch := first|omega|(simp [wcs_len]<;>omega)|fail) only [go_sem,simprocAttr]
 refine wcall (c85 b hv g g2 caps caps2 may carry hmay hcarry) ?_
 simp -failIfUnchanged (disch := first|omega|(simp [wcs_len]<;>omega)|fail) only [go_sem,simprocAttr]
theorem val_of_check {b : Bk} (h : checkB b = true) : Val b := by
 simp only [checkB, within, isCordB, Bool.and_eq_true, decide_eq_true_eq, Bool.not_eq_true', List.any_eq_false, Bool.not_eq_true, Bool.not_eq_false'] at h
 obtain ⟨h1, h2, h3, h4, h5, h6⟩ := h
 have key : ∀ s : Sp, badS b s = false → 0 ≤ s.lo ∧ s.lo ≤ s.hi ∧ s.hi < b.base := by
  intro s hs
  simp only [badS, within, Bool.or_eq_false_iff, Bool.not_eq_false', decide_eq_true_eq, decide_eq_false_iff_not] at hs
  omega
 refine ⟨h1, h2, by omega, fun l hl => ?_, h5, fun s hs => key s (by simpa using h6 s hs)⟩
 have := h4 l hl
 simp only [Bool.and_eq_false_iff, decide_eq_false_iff_not, not_or, Decidable.not_not, Bool.not_eq_false', Bool.not_eq_true, List.any_eq_false] at this
 obtain ⟨k1, k2⟩ := this
 exact ⟨k1, fun s hs => key s (by simpa using k2 s hs)⟩
def yes3 (_ _ _ : Nat) : Bool := true
def yes2 (_ _ : Nat) : Bool := true
theorem c22 (b : Bk) (hs : Small b) : Ctr Tryz.prog 22 [KB b] (if checkB b then .tup [.int (solveL b yes3 yes2).r, .int 0] else .tup [.int 0, .int 110]) := by
 refine ctr_of_wp hmix Tryz.func22 m22 rfl ?_
 unfold v22
 simp -failIfUnchanged (disch := first|omega|(simp [wcs_len]<;>omega)|fail) only [go_sem,simprocAttr]
 refine wcall (c71 b hs) ?_
 cases hc : checkB b with
 | false => simp -failIfUnchanged (disch := first|omega|(simp [wcs_len]<;>omega)|fail) only [go_sem,simprocAttr]
 | true =>
  simp -failIfUnchanged (disch := first|omega|(simp [wcs_len]<;>omega)|fail) only [go_sem,simprocAttr]
  refine wcall (c72 b) ?_
  simp -failIfUnchanged (disch := first|omega|(simp [wcs_len]<;>omega)|fail) only [go_sem,simprocAttr]
  refine wcall (c73 b (val_of_check hc) 117 118 [] [] yes3 yes2 (fun c p d _ _ _ => c117 c p d) (fun p n _ _ => c118 p n)) ?_
  simp -failIfUnchanged (disch := first|omega|(simp [wcs_len]<;>omega)|fail) only [go_sem,simprocAttr]
theorem c36 (b : Bk) (hs : Small b) : Ctr Tryz.prog 36 [KB b] (if checkB b then .tup [.int (solveL b yes3 yes2).k, .int 0] else .tup [.int 0, .int 110]) := by
 refine ctr_of_wp hmix Tryz.func36 m36 rfl ?_
 unfold v36
 simp -failIfUnchanged (disch := first|omega|(simp [wcs_len]<;>omega)|fail) only [go_sem,simprocAttr]
 refine wcall (c71 b hs) ?_
 cases hc : checkB b with
 | false => simp -failIfUnchanged (disch := first|omega|(simp [wcs_len]<;>omega)|fail) only [go_sem,simprocAttr]
 | true =>
  simp -failIfUnchanged (disch := first|omega|(simp [wcs_len]<;>omega)|fail) only [go_sem,simprocAttr]
  refine wcall (c72 b) ?_
  simp -failIfUnchanged (disch := first|omega|(simp [wcs_len]<;>omega)|fail) only [go_sem,simprocAttr]
  refine wcall (c85 b (val_of_check hc) 117 118 [] [] yes3 yes2 (fun c p d _ _ _ => c117 c p d) (fun p n _ _ => c118 p n)) ?_
  simp -failIfUnchanged (disch := first|omega|(simp [wcs_len]<;>omega)|fail) only [go_sem,simprocAttr]
theorem c48 (b : Bk) (hs : Small b) (is : Bool) : Ctr Tryz.prog 48 [KB b, .bool is] (.int (if checkB b then if is then 0 else 1 else 110)) := by
 refine ctr_of_wp hmix Tryz.func48 m48 rfl ?_
 unfold v48
 simp -failIfUnchanged (disch := first|omega|(simp [wcs_len]<;>omega)|fail) only [go_sem,simprocAttr]
 refine wcall (c71 b hs) ?_
 cases hc : checkB b with
 | false => simp -failIfUnchanged (disch := first|omega|(simp [wcs_len]<;>omega)|fail) only [go_sem,simprocAttr]
 | true =>
  cases is with
  | false => simp -failIfUnchanged (disch := first|omega|(simp [wcs_len]<;>omega)|fail) only [go_sem,simprocAttr]
  | true => simp -failIfUnchanged (disch := first|omega|(simp [wcs_len]<;>omega)|fail) only [go_sem,simprocAttr]
end Go.Proofs.YtpangdaijhiohaaGreatDoor.Kn

set_option linter.unusedSimpArgs false
set_option linter.unusedVariables false
set_option linter.unnecessarySimpa false
namespace Go.Proofs.YtpangdaijhiohaaGreatDoor.Kn
open Go Go.V
def allC (b : Bk) : List (List Sp) := b.cords ++ [b.top]
theorem wsliceF_len {next : AS → Prop} {σ : AS} {d : Option Nat} {sz : Nat} {es : List AV} {m : VM} {n : Int} (h : n = es.length) : WSliceF sz (.sl sz es m) none (some (.int n)) (some (.int n)) d next σ = next (put d (.sl sz es .full) σ) := by
 subst h
 exact wsliceF_all
theorem c51 (b : Bk) (hs : Small b) : Ctr Tryz.prog 51 [KB b] (.sl 1 ((allC b).map SS) .sh) := by
 refine ctr_of_wp hmix Tryz.func51 m51 rfl ?_
 unfold v51
 have h1 := hs.cords
 simp -failIfUnchanged (disch := first|omega|(simp [wcs_len]<;>omega)|fail) only [go_sem,simprocAttr]
 rw [wsliceF_len (by simp)]
 simp -failIfUnchanged (disch := first|omega|(simp [wcs_len]<;>omega)|fail) only [go_sem,simprocAttr]
 simp [allC]
def numL (base : Int) (l : List Int) : Int := l.foldl (fun n d => w64 (w64 (n * base) + d)) 0
theorem c63 (base : Int) (l : List Int) (hl : l.length < 4294967296) : Ctr Tryz.prog 63 [.int base, IS l] (.int (numL base l)) := by
 refine ctr_of_wp hmix Tryz.func63 m63 rfl ?_
 unfold v63 IS
 simp -failIfUnchanged (disch := first|omega|(simp [wcs_len]<;>omega)|fail) only [go_sem,simprocAttr]
 refine wp_loop' (Nat × Int) (fun x => ⟨[(0, .int base), (5, .int x.2), (8, IS l), (9, .int l.length), (10, .int x.1)], [], [], none⟩) (fun x => x.1 ≤ l.length ∧ x.2 = numL base (l.take x.1)) (fun x => l.length - x.1) (0, 0) (by simp [numL]) (by unfold IS; simp -failIfUnchanged (disch := first|omega|(simp [wcs_len]<;>omega)|fail) only [go_sem,simprocAttr]; try simp) ?_
 rintro ⟨i, n⟩ ⟨hi, hn⟩
 dsimp only at hi hn ⊢
 unfold IS
 simp -failIfUnchanged (disch := first|omega|(simp [wcs_len]<;>omega)|fail) only [go_sem,simprocAttr]
 refine wcond_dec (fun h => ?_) (fun h => ?_)
 ·simp -failIfUnchanged (disch := first|omega|(simp [wcs_len]<;>omega)|fail) only [go_sem,simprocAttr]
  have hlt : i < l.length := by omega
  refine ⟨(i + 1, numL base (l.take (i + 1))), ⟨by omega, rfl⟩, by dsimp only; omega, ?_⟩
  have e : numL base (l.take (i + 1)) = w64 (w64 (n * base) + l[i]?.getD default) := by
   rw [hn]
   unfold numL
   rw [List.take_add_one, List.getElem?_eq_getElem hlt, List.foldl_append]
   rfl
  rw [e]
  simp -failIfUnchanged (disch := first|omega|(simp [wcs_len]<;>omega)|fail) only [go_sem,simprocAttr]
  try simp
 ·simp -failIfUnchanged (disch := first|omega|(simp [wcs_len]<;>omega)|fail) only [go_sem,simprocAttr]
  have e : i = l.length := by omega
  rw [hn, e, List.take_length]
end Go.Proofs.YtpangdaijhiohaaGreatDoor.Kn

set_option linter.unusedSimpArgs false
set_option linter.unusedVariables false
set_option linter.unnecessarySimpa false
namespace Go.Proofs.YtpangdaijhiohaaGreatDoor.Kn
open Go Go.V
theorem c8 (n lo hi : Int) : Ctr Tryz.prog 8 [.int n, .int lo, .int hi] (.bool (within n lo hi)) := by
 refine ctr_of_wp hmix Tryz.func8 m8 rfl ?_
 unfold v8
 simp -failIfUnchanged (disch := first|omega|(simp [wcs_len]<;>omega)|fail) only [go_sem,simprocAttr]
 refine WGd_bool (fun h => ?_) (fun h => ?_)
 ·simp -failIfUnchanged (disch := first|omega|(simp [wcs_len]<;>omega)|fail) only [go_sem,simprocAttr, h]
  simp only [decide_eq_true_eq] at h
  simp [within, h]
 ·simp -failIfUnchanged (disch := first|omega|(simp [wcs_len]<;>omega)|fail) only [go_sem,simprocAttr, h]
  simp only [Bool.not_true, decide_eq_false_iff_not] at h
  simp [within, h]
theorem c41 (n lo hi : Int) : Ctr Tryz.prog 41 [.int n, .int lo, .int hi] (.bool (within n lo hi)) := by
 refine ctr_of_wp hmix Tryz.func41 m41 rfl ?_
 unfold v41
 simp -failIfUnchanged (disch := first|omega|(simp [wcs_len]<;>omega)|fail) only [go_sem,simprocAttr]
 refine wcall (c8 _ _ _) ?_
 simp -failIfUnchanged (disch := first|omega|(simp [wcs_len]<;>omega)|fail) only [go_sem,simprocAttr]
def allN (b : Bk) : Nat := b.base.toNat ^ b.places.toNat
theorem pow_le {B P : Nat} (hB : B ≤ 10) (hP : P ≤ 4) : B ^ P ≤ 10000 :=
 Nat.le_trans (Nat.pow_le_pow_left hB P) (Nat.le_trans (Nat.pow_le_pow_right (by omega) hP) (by decide))
end Go.Proofs.YtpangdaijhiohaaGreatDoor.Kn

set_option linter.unusedSimpArgs false
set_option linter.unusedVariables false
set_option linter.unnecessarySimpa false
namespace Go.Proofs.YtpangdaijhiohaaGreatDoor.Kn
open Go Go.V
def areDig (b : Bk) (l : List Int) : Bool := decide ((l.length : Int) = b.places) && !l.any (fun d => !within d 0 (w64 (b.base - 1)))
theorem c34 (b : Bk) (l : List Int) (hl : l.length < 4294967296) : Ctr Tryz.prog 34 [KB b, IS l] (.bool (areDig b l)) := by
 refine ctr_of_wp hmix Tryz.func34 m34 rfl ?_
 unfold v34 IS
 simp -failIfUnchanged (disch := first|omega|(simp [wcs_len]<;>omega)|fail) only [go_sem,simprocAttr]
 refine wcond_dec (fun h => ?_) (fun h => ?_)
 ·simp -failIfUnchanged (disch := first|omega|(simp [wcs_len]<;>omega)|fail) only [go_sem,simprocAttr]
  simp [areDig, h]
 ·simp only [Decidable.not_not] at h
  simp -failIfUnchanged (disch := first|omega|(simp [wcs_len]<;>omega)|fail) only [go_sem,simprocAttr]
  refine wp_loop' Nat (fun i => ⟨[(1, IS l), (2, .ptr 2 0), (5, .int i)], [(2, ⟨[.int b.base, .int b.places, .sl 1 (b.cords.map SS) .sh, SS b.top], false⟩)], [], none⟩) (fun i => i ≤ l.length ∧ ∀ x ∈ l.take i, (!within x 0 (w64 (b.base - 1))) = false) (fun i => l.length - i) 0 (by simp) (by unfold IS; simp -failIfUnchanged (disch := first|omega|(simp [wcs_len]<;>omega)|fail) only [go_sem,simprocAttr]; try rfl) ?_
  rintro i ⟨hi, hpre⟩
  unfold IS
  simp -failIfUnchanged (disch := first|omega|(simp [wcs_len]<;>omega)|fail) only [go_sem,simprocAttr]
  refine wcond_dec (fun h2 => ?_) (fun h2 => ?_)
  ·have hlt : i < l.length := by omega
   simp -failIfUnchanged (disch := first|omega|(simp [wcs_len]<;>omega)|fail) only [go_sem,simprocAttr]
   refine wcall (c41 _ _ _) ?_
   simp -failIfUnchanged (disch := first|omega|(simp [wcs_len]<;>omega)|fail) only [go_sem,simprocAttr]
   refine wcond_bool (fun h4 => ?_) (fun h4 => ?_)
   ·simp -failIfUnchanged (disch := first|omega|(simp [wcs_len]<;>omega)|fail) only [go_sem,simprocAttr]
    have : l.any (fun d => !within d 0 (w64 (b.base - 1))) = true := List.any_eq_true.2 ⟨_, mem_getD hlt, h4⟩
    simp only [areDig, this]
    simp
   ·simp -failIfUnchanged (disch := first|omega|(simp [wcs_len]<;>omega)|fail) only [go_sem,simprocAttr]
    refine ⟨i + 1, ⟨by omega, take_succ_all (p := fun d => !within d 0 (w64 (b.base - 1))) hlt hpre h4⟩, by dsimp only; omega, ?_⟩
    simp -failIfUnchanged (disch := first|omega|(simp [wcs_len]<;>omega)|fail) only [go_sem,simprocAttr]
    try simp
  ·simp -failIfUnchanged (disch := first|omega|(simp [wcs_len]<;>omega)|fail) only [go_sem,simprocAttr]
   have e : i = l.length := by omega
   rw [e, List.take_length] at hpre
   have : l.any (fun d => !within d 0 (w64 (b.base - 1))) = false := List.any_eq_false.2 fun x hx => by simp [hpre x hx]
   simp only [areDig, this]
   simp [h]
def cordAt (b : Bk) (n : Nat) : List Sp := if n = b.cords.length then b.top else b.cords[n]?.getD default
def fitsL (l : List Sp) (ds : List Int) : Bool := (List.range l.length).all fun i => within (ds[i]?.getD default) (l[i]?.getD default).lo (l[i]?.getD default).hi
end Go.Proofs.YtpangdaijhiohaaGreatDoor.Kn

set_option linter.unusedSimpArgs false
set_option linter.unusedVariables false
set_option linter.unnecessarySimpa false
namespace Go.Proofs.YtpangdaijhiohaaGreatDoor.Kn
open Go Go.V
theorem zeros_ints (n : Nat) : zeros [.int 0] n = (List.replicate n (0 : Int)).map .int := by
 induction n with
 | zero => rfl
 | succ n ih => simp only [zeros, List.replicate_succ, List.map_cons, ih]; rfl
theorem setAt_ints {xs : List Int} {i : Nat} {x : Int} (h : i < xs.length) : setAt (xs.map .int) i [.int x] = (xs.set i x).map .int := by
 induction xs generalizing i with
 | nil => simp at h
 | cons w l ih =>
  cases i with
  | zero => rfl
  | succ i =>
   simp only [List.map_cons, setAt, List.set_cons_succ]
   rw [ih (by simpa using h)]
theorem map_ints {xs : List Int} {hp : List (Nat × BX)} : (xs.map AV.int).map (strip hp) = xs.map .int := by
 rw [List.map_map]
 rfl
theorem bids_ints {xs : List Int} : bids (xs.map AV.int) = [] := by
 induction xs with
 | nil => rfl
 | cons w l ih => simp only [List.map_cons, bids, AV.bid, AV.bid1, ih, List.append_nil]
theorem scopes_ints {τ : AS} {xs : List Int} : scopes τ (xs.map AV.int) = True := by
 induction xs with
 | nil => rfl
 | cons w l ih => simp only [List.map_cons, scopes, inScope, ih, and_self]
theorem chunks_ints {xs : List Int} {n : Nat} (h : n = xs.length) : chunks false 1 (xs.map AV.int) 0 n = xs.map .int := by
 subst h
 apply List.ext_getElem?
 intro i
 rcases Nat.lt_or_ge i xs.length with hi | hi
 ·rw [chunks_get _ _ _ _ _ _ hi]
  simp [chunk, hi]
 ·rw [List.getElem?_eq_none (by rw [chunks_length]; exact hi), List.getElem?_eq_none (by simpa using hi)]
attribute [go_sem] zeros_ints setAt_ints map_ints bids_ints scopes_ints
def tieN (B : Nat) : Nat → Nat → List Int
 | 0, _ => []
 | P + 1, n => tieN B P (n / B) ++ [((n % B : Nat) : Int)]
theorem tieN_len (B : Nat) : ∀ P n, (tieN B P n).length = P
 | 0, _ => rfl
 | P + 1, n => by simp [tieN, tieN_len B P]
end Go.Proofs.YtpangdaijhiohaaGreatDoor.Kn

set_option linter.unusedSimpArgs false
set_option linter.unusedVariables false
set_option linter.unnecessarySimpa false
namespace Go.Proofs.YtpangdaijhiohaaGreatDoor.Kn
open Go Go.V
theorem allN_le {b : Bk} (hv : Val b) : allN b ≤ 10000 := by
 obtain ⟨hb1, hb2⟩ := hv.hb
 obtain ⟨hp1, hp2⟩ := hv.hp
 exact pow_le (by omega) (by omega)
def isN (b : Bk) (cord : Nat) (freely : Bool) (n : Nat) : Bool := freely || fitsL (cordAt b cord) (tieN b.base.toNat b.places.toNat n)
theorem cordAt_val {b : Bk} (hv : Val b) {n : Nat} (hn : n ≤ b.cords.length) : ((cordAt b n).length : Int) = b.places ∧ ∀ s ∈ cordAt b n, 0 ≤ s.lo ∧ s.lo ≤ s.hi ∧ s.hi < b.base := by
 unfold cordAt
 split
 ·exact hv.top
 ·have hlt : n < b.cords.length := by omega
  exact hv.cord _ (mem_getD hlt)
end Go.Proofs.YtpangdaijhiohaaGreatDoor.Kn

set_option linter.unusedSimpArgs false
set_option linter.unusedVariables false
set_option linter.unnecessarySimpa false
namespace Go.Proofs.YtpangdaijhiohaaGreatDoor.Kn
open Go Go.V
end Go.Proofs.YtpangdaijhiohaaGreatDoor.Kn

set_option linter.unusedSimpArgs false
set_option linter.unusedVariables false
set_option linter.unnecessarySimpa false
namespace Go.Proofs.YtpangdaijhiohaaGreatDoor.Kn
open Go Go.V
end Go.Proofs.YtpangdaijhiohaaGreatDoor.Kn

set_option linter.unusedSimpArgs false
set_option linter.unusedVariables false
set_option linter.unnecessarySimpa false
namespace Go.Proofs.YtpangdaijhiohaaGreatDoor.Kn
open Go Go.V
def spanL (l : List Int) (m : Nat) : Sp := (l.take m).foldl (fun s x => ⟨min s.lo x, max s.hi x⟩) ⟨l[0]?.getD default, l[0]?.getD default⟩
theorem ag35 : aggOf Tryz.prog 35 = some true := by kernel_rfl
theorem sz35 : szOf Tryz.prog 35 = some 2 := by kernel_rfl
attribute [go_sem] ag35 sz35
end Go.Proofs.YtpangdaijhiohaaGreatDoor.Kn

set_option linter.unusedSimpArgs false
set_option linter.unusedVariables false
set_option linter.unnecessarySimpa false
namespace Go.Proofs.YtpangdaijhiohaaGreatDoor.Kn
open Go Go.V
def sumsN (b : Bk) (freely : Bool) : Nat → List Nat → List (List Nat)
 | 0, first => if first.sum < allN b && (freely || fitsL b.top (tieN b.base.toNat b.places.toNat first.sum)) then [first ++ [first.sum]] else []
 | k + 1, first => ((List.range (allN b)).filter (isN b first.length freely)).flatMap fun n => sumsN b freely k (first ++ [n])
theorem sumsN_mem (b : Bk) (freely : Bool) : ∀ (k : Nat) (first l : List Nat), (∀ x ∈ first, x < allN b) → l ∈ sumsN b freely k first → l.length = first.length + k + 1 ∧ ∀ x ∈ l, x < allN b
 | 0, first, l, hf, hl => by
  unfold sumsN at hl
  split at hl
  ·rename_i h
   simp only [Bool.and_eq_true, decide_eq_true_eq] at h
   simp only [List.mem_singleton] at hl
   subst hl
   refine ⟨by simp, fun x hx => ?_⟩
   rcases List.mem_append.1 hx with hx | hx
   ·exact hf x hx
   ·simp at hx; subst hx; exact h.1
  ·simp at hl
 | k + 1, first, l, hf, hl => by
  unfold sumsN at hl
  obtain ⟨n, hn, hl⟩ := List.mem_flatMap.1 hl
  have hn2 : n < allN b := List.mem_range.1 (List.mem_filter.1 hn).1
  have := sumsN_mem b freely k (first ++ [n]) l (fun x hx => by
   rcases List.mem_append.1 hx with hx | hx
   ·exact hf x hx
   ·simp at hx; subst hx; exact hn2) hl
  refine ⟨by rw [this.1]; simp; omega, this.2⟩
end Go.Proofs.YtpangdaijhiohaaGreatDoor.Kn

set_option linter.unusedSimpArgs false
set_option linter.unusedVariables false
set_option linter.unnecessarySimpa false
namespace Go.Proofs.YtpangdaijhiohaaGreatDoor.Kn
open Go Go.V
abbrev allNs (b : Bk) : List (List Nat) := sumsN b false b.cords.length []
theorem allNs_mem {b : Bk} {l : List Nat} (h : l ∈ allNs b) : l.length = b.cords.length + 1 ∧ ∀ x ∈ l, x < allN b := by
 have := sumsN_mem b false b.cords.length [] l (by simp) h
 simpa using this
def colS (b : Bk) (c : Nat) (m : Nat) : List Int := ((allNs b).take m).map fun l => ((l[c]?.getD default : Nat) : Int)
end Go.Proofs.YtpangdaijhiohaaGreatDoor.Kn

set_option linter.unusedSimpArgs false
set_option linter.unusedVariables false
set_option linter.unnecessarySimpa false
namespace Go.Proofs.YtpangdaijhiohaaGreatDoor.Kn
open Go Go.V
end Go.Proofs.YtpangdaijhiohaaGreatDoor.Kn

set_option linter.unusedSimpArgs false
set_option linter.unusedVariables false
set_option linter.unnecessarySimpa false
namespace Go.Proofs.YtpangdaijhiohaaGreatDoor.Kn
open Go Go.V
abbrev capsD (b : Bk) (m m2 : AV) (cord place : Nat) : List AV :=
 [.ref 6 [LM b m m2] 0 0, .ref 1 [.agg [.int cord]] 0 0, .ref 1 [.agg [.int place]] 0 0]
theorem c108 (b : Bk) (g g2 : Nat) (caps caps2 : List AV) (cord place : Nat) : Ctr Tryz.prog 108 [LM b (.clo g [] caps) (.clo g2 [] caps2), .int cord, .int place] (.clo 142 [] (capsD b (.clo g [] caps) (.clo g2 [] caps2) cord place)) := by
 refine ctr_of_wp hmix Tryz.func108 m108 rfl ?_
 unfold v108
 simp -failIfUnchanged (disch := first|omega|(simp [wcs_len]<;>omega)|fail) only [go_sem,simprocAttr]
def manyD (b : Bk) (may : Nat → Nat → Nat → Bool) (carry : Nat → Nat → Bool) (cord place d : Nat) : Int := (solveL b (onlyF may cord place d) carry).r
def spanD (b : Bk) (may : Nat → Nat → Nat → Bool) (carry : Nat → Nat → Bool) (cord place : Nat) (m : Nat) : Sp :=
 (List.range m).foldl (fun s d => if 0 < manyD b may carry cord place d then ⟨min s.lo d, max s.hi d⟩ else s) ⟨b.base, 0⟩
theorem ag42b : aggOf Tryz.prog 35 = some true := by kernel_rfl
theorem sz42b : szOf Tryz.prog 35 = some 2 := by kernel_rfl
attribute [go_sem] ag42b sz42b
theorem c62 (b : Bk) (hv : Val b) (g g2 : Nat) (caps caps2 : List AV) (may : Nat → Nat → Nat → Bool) (carry : Nat → Nat → Bool)
  (hmay : ∀ c p d : Nat, c ≤ b.cords.length → p < b.places.toNat → d < b.base.toNat → Ctr Tryz.prog g ([.int c, .int p, .int d] ++ caps) (.bool (may c p d)))
  (hcarry : ∀ p n : Nat, p < b.places.toNat → n ≤ 50 → Ctr Tryz.prog g2 ([.int p, .int n] ++ caps2) (.bool (carry p n))) (cord place : Nat) :
  Ctr Tryz.prog 62 [LM b (.clo g [] caps) (.clo g2 [] caps2), .int cord, .int place] (SP (spanD b may carry cord place b.base.toNat)) := by
 refine ctr_of_wp hmix Tryz.func62 m62 rfl ?_
 unfold v62
 simp -failIfUnchanged (disch := first|omega|(simp [wcs_len]<;>omega)|fail) only [go_sem,simprocAttr]
 refine wcall (c108 b g g2 caps caps2 cord place) ?_
 simp -failIfUnchanged (disch := first|omega|(simp [wcs_len]<;>omega)|fail) only [go_sem,simprocAttr]
 refine wp_range' ?_
 simp -failIfUnchanged (disch := first|omega|(simp [wcs_len]<;>omega)|fail) only [go_sem,simprocAttr]
 refine wrange fun l T hT => ?_
 refine csem_of_wp hmix Tryz.func142 m142 rfl rfl ?_
 unfold v142
 simp -failIfUnchanged (disch := first|omega|(simp [wcs_len]<;>omega)|fail) only [go_sem,simprocAttr]
 obtain ⟨hb1, hb2⟩ := hv.hb
 have hB : ((b.base.toNat : Nat) : Int) = b.base := by omega
 refine wp_loopX (Nat × Sp) (fun x => ⟨[(0, .yld l), (1, .ref 6 [LM b (.clo g [] caps) (.clo g2 [] caps2)] 0 0), (2, .ref 1 [.agg [.int cord]] 0 0), (3, .ref 1 [.agg [.int place]] 0 0), (9, .int b.base), (10, .int x.1)], [(7, ⟨[.int x.2.lo, .int x.2.hi], false⟩), (6, ⟨[.int 0, .int 0], false⟩)], [], none⟩)
  (fun x => x.1 ≤ b.base.toNat ∧ x.2 = spanD b may carry cord place x.1) (fun x => b.base.toNat - x.1) (0, spanD b may carry cord place 0) (by simp) (by simp -failIfUnchanged (disch := first|omega|(simp [wcs_len]<;>omega)|fail) only [go_sem,simprocAttr]; try simp [spanD]) (fun x => by simp -failIfUnchanged (disch := first|omega|(simp [wcs_len]<;>omega)|fail) only [go_sem,simprocAttr]) ?_
 rintro ⟨d, s⟩ ⟨hd, hs⟩
 simp only at hd hs
 have hsucc : spanD b may carry cord place (d + 1) = if 0 < manyD b may carry cord place d then ⟨min s.lo d, max s.hi d⟩ else s := by
  rw [hs, spanD, List.range_succ, List.foldl_append]
  rfl
 simp -failIfUnchanged (disch := first|omega|(simp [wcs_len]<;>omega)|fail) only [go_sem,simprocAttr]
 refine wcond_dec (fun h => ?_) (fun h => ?_)
 ·simp -failIfUnchanged (disch := first|omega|(simp [wcs_len]<;>omega)|fail) only [go_sem,simprocAttr]
  refine wcall (c64 b g g2 caps caps2 cord place d) ?_
  simp -failIfUnchanged (disch := first|omega|(simp [wcs_len]<;>omega)|fail) only [go_sem,simprocAttr]
  refine wcall (c73 b hv 109 g2 _ caps2 (onlyF may cord place d) carry (fun c p d' h1 h2 h3 => c109 g caps may cord place d c p d' (hmay c p d' h1 h2 h3)) hcarry) ?_
  simp -failIfUnchanged (disch := first|omega|(simp [wcs_len]<;>omega)|fail) only [go_sem,simprocAttr]
  refine WGd_bool (fun h1 => ?_) (fun h1 => ?_)
  ·simp -failIfUnchanged (disch := first|omega|(simp [wcs_len]<;>omega)|fail) only [go_sem,simprocAttr, h1]
   refine wyield (hT _ _ _ _ _ rfl ?_)
   simp -failIfUnchanged (disch := first|omega|(simp [wcs_len]<;>omega)|fail) only [go_sem,simprocAttr, h1]
   have h1' : 0 < manyD b may carry cord place d := by simpa [manyD] using h1
   refine ⟨(d + 1, ⟨min s.lo d, max s.hi d⟩), ⟨by dsimp only; omega, by rw [hsucc, if_pos h1']⟩, by dsimp only; omega, ?_⟩
   simp -failIfUnchanged (disch := first|omega|(simp [wcs_len]<;>omega)|fail) only [go_sem,simprocAttr]
   try simp
  ·simp -failIfUnchanged (disch := first|omega|(simp [wcs_len]<;>omega)|fail) only [go_sem,simprocAttr, h1]
   have h1' : ¬ 0 < manyD b may carry cord place d := by simpa [manyD] using h1
   refine ⟨(d + 1, s), ⟨by dsimp only; omega, by rw [hsucc, if_neg h1']⟩, by dsimp only; omega, ?_⟩
   simp -failIfUnchanged (disch := first|omega|(simp [wcs_len]<;>omega)|fail) only [go_sem,simprocAttr]
   try simp
 ·simp -failIfUnchanged (disch := first|omega|(simp [wcs_len]<;>omega)|fail) only [go_sem,simprocAttr]
  have ed : d = b.base.toNat := by omega
  rw [hs, ed]
end Go.Proofs.YtpangdaijhiohaaGreatDoor.Kn

set_option linter.unusedSimpArgs false
set_option linter.unusedVariables false
set_option linter.unnecessarySimpa false
namespace Go.Proofs.YtpangdaijhiohaaGreatDoor.Kn
open Go Go.V
abbrev LM0 : AV := .agg [.int 0, .int 0, .sl 1 [] .sh, .sl 2 [] .sh, .und, .und]
def knownR (b : Bk) (is : Bool) : AV :=
 if checkB b then
  if is then
   if (solveL b yes3 yes2).r = 0 then .tup [LM0, .int 3] else .tup [LM b (.clo 117 [] []) (.clo 118 [] []), .int 0]
  else .tup [LM0, .int 1]
 else .tup [LM0, .int 110]
theorem c60g (b : Bk) (hs : Small b) (is : Bool) : Ctr Tryz.prog 60 [KB b, .bool is] (knownR b is) := by
 refine ctr_of_wp hmix Tryz.func60 m60 rfl ?_
 unfold v60 knownR
 simp -failIfUnchanged (disch := first|omega|(simp [wcs_len]<;>omega)|fail) only [go_sem,simprocAttr]
 refine wcall (c48 b hs is) ?_
 cases hc : checkB b with
 | false => simp -failIfUnchanged (disch := first|omega|(simp [wcs_len]<;>omega)|fail) only [go_sem,simprocAttr]
 | true =>
  cases is with
  | false => simp -failIfUnchanged (disch := first|omega|(simp [wcs_len]<;>omega)|fail) only [go_sem,simprocAttr]
  | true =>
   simp -failIfUnchanged (disch := first|omega|(simp [wcs_len]<;>omega)|fail) only [go_sem,simprocAttr]
   refine wcall (c72 b) ?_
   simp -failIfUnchanged (disch := first|omega|(simp [wcs_len]<;>omega)|fail) only [go_sem,simprocAttr]
   refine wcall (c73 b (val_of_check hc) 117 118 [] [] yes3 yes2 (fun c p d _ _ _ => c117 c p d) (fun p n _ _ => c118 p n)) ?_
   simp -failIfUnchanged (disch := first|omega|(simp [wcs_len]<;>omega)|fail) only [go_sem,simprocAttr]
   refine wcond_dec (fun h => ?_) (fun h => ?_)
   ·simp -failIfUnchanged (disch := first|omega|(simp [wcs_len]<;>omega)|fail) only [go_sem,simprocAttr, h]
   ·simp -failIfUnchanged (disch := first|omega|(simp [wcs_len]<;>omega)|fail) only [go_sem,simprocAttr, h]
def ansR (b : Bk) (is : Bool) (z v : AV) : AV :=
 if checkB b then
  if is then
   if (solveL b yes3 yes2).r = 0 then .tup [z, .int 3] else .tup [v, .int 0]
  else .tup [z, .int 1]
 else .tup [z, .int 110]
end Go.Proofs.YtpangdaijhiohaaGreatDoor.Kn
