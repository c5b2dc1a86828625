/- Merged by program: V17c, V17d, V18, V19, V20, V21, V22. -/
import Derived.Test.YtggnmemkhookdaaGreatDoorM2
import Derived.Deep.Slices
import Derived.ChangeArms
import Derived.Carry
set_option linter.unusedSimpArgs false
set_option linter.unusedVariables false
set_option linter.unnecessarySimpa false
namespace Go.V
open Go Go.RowKit
section
variable {E : Env} {n : Nat} {X : List (Array Value × List (Nat × AV))} {KK : List (Nat × Obj)} {L : Option (Nat × (Option Ex → Obj))}
variable {C0 : Nat → Nat → Prop} {w0 : World}
def barOK (os : List Oper) (k : Nat) : Bool :=
 let b := befN os []
 (List.range os.length).all fun i => if i < k then (b.getD k 0).testBit i else if k < i then (b.getD i 0).testBit k else true
theorem one_wp {ρ : Option Nat} {fu : Nat} (hX : X.map (·.2) = E.X) (hY : YSnd E.P E.T C0 w0 X KK L) (hρ : E.rd = false → ρ = none)
  {ops : Array Oper} {Q : Exit → Act → World → Prop} {next : AS → Prop} {K : Act → World → Prop} {σ : AS} {a : Act} {w : World} {i : Nat} {o : Oper} {v : VOper} (hr : R ⟨n, X, KK, L⟩ C0 w0 σ a w)
  (ho : ops[i]? = some o) (hm : moper E.P n ops o v = true) (hw : WOp E false v next σ) (hK : ∀ σ' a' w', R ⟨n, X, KK, L⟩ C0 w0 σ' a' w' → next σ' → K a' w') : wpOpIn (Fr ρ) fu E.P ops Q i K a w := by
 obtain ⟨m1, m2, m3, m4⟩ := moper_spec hm
 unfold wpOpIn
 rw [ho]
 simp only
 have run : Region.wanted o (yielded ops a.tmps) = true → W1 E v.d v.op next σ → (if Region.wanted o (yielded ops a.tmps) = true then o.wpIn (Fr ρ) fu E.P a w K Q else (∀ f, o.about E.P w a.eval = some f → (Fr ρ).fn f) ∧ K (a.put o.dst undef) w) := by
  intro hwant h1
  rw [if_pos hwant]
  exact w1_wp hX hY hρ hr m4 m2 m1 h1 hK
 have skip : Region.wanted o (yielded ops a.tmps) = false → next (put v.d .nul σ) → (if Region.wanted o (yielded ops a.tmps) = true then o.wpIn (Fr ρ) fu E.P a w K Q else (∀ f, o.about E.P w a.eval = some f → (Fr ρ).fn f) ∧ K (a.put o.dst undef) w) := by
  intro hwant h1
  rw [if_neg (by rw [hwant]; simp), m1]
  exact ⟨fun _ _ => trivial, hK _ _ _ (nul_put hr m2) h1⟩
 unfold WOp at hw
 cases hg : v.g with
 | none =>
  simp only [hg, WD] at hw
  exact run (wanted_gst hr m3 (by simp [gst, hg])) hw
 | some p =>
  obtain ⟨t, want⟩ := p
  simp only [hg, WGd] at hw
  cases hv : get σ.fr t <;> simp only [hv] at hw <;> first | exact hw.elim | skip
  ·exact skip (wanted_gst hr m3 (by simp [gst, hg, hv])) hw
  ·rename_i b
   cases hb : (b == want) with
   | true =>
    simp only [hb, WD] at hw
    exact run (wanted_gst hr m3 (by simp [gst, hg, hv, hb])) hw
   | false =>
    simp only [hb] at hw
    exact skip (wanted_gst hr m3 (by simp [gst, hg, hv, hb])) hw
theorem any_pre {ρ : Option Nat} {fu : Nat} (hX : X.map (·.2) = E.X) (hY : YSnd E.P E.T C0 w0 X KK L) (hρ : E.rd = false → ρ = none) {ops : Array Oper} {vs : List VOper} {Q : Exit → Act → World → Prop} (hm : mopers E.P n ops ops.toList vs = true) (hord : orderOK ops.toList vs = true) {σf : AS}
  {kb : Nat} (hkb : kb < ops.size) (hbar : barOK ops.toList kb = true) {m : Nat}
  (hQ : ∀ (listed : Array Bool) τ a w, listed.size = ops.size → (∀ i, i < ops.size → (kb ≤ i ↔ listed.getD i true = false)) → (∀ (i : Nat) (o : Oper), ops[i]? = some o → listed.getD i true = true → ∀ d ∈ direct o, listed.getD d true = true) → R ⟨n, X, KK, L⟩ C0 w0 τ a w → EqS τ σf → wpAnyIn (Fr ρ) fu E.P .any ops Q m listed a w) :
  ∀ (fuel : Nat) (rem : List Nat) (listed : Array Bool) (σ τf : AS) (a : Act) (w : World), rem.length = fuel → List.Pairwise (· < ·) rem → listed.size = ops.size →
   (∀ i, i < ops.size → ((i ∈ rem ∨ kb ≤ i) ↔ listed.getD i true = false)) → (∀ i ∈ rem, i < kb) →
   (∀ (i : Nat) (o : Oper), ops[i]? = some o → listed.getD i true = true → ∀ d ∈ direct o, listed.getD d true = true) →
   R ⟨n, X, KK, L⟩ C0 w0 σ a w → Runs E.P (rem.map fun i => (vs[i]?).getD ⟨none, .mov (.t 0), none⟩) σ τf → EqS τf σf → wpAnyIn (Fr ρ) fu E.P .any ops Q (fuel + m) listed a w := by
 obtain ⟨hlen, hget⟩ := mopers_get _ _ hm
 simp only [orderOK, Bool.and_eq_true] at hord
 obtain ⟨hback, hpairs⟩ := hord
 have hback' : ∀ (i : Nat) (o : Oper), ops[i]? = some o → ∀ d ∈ direct o, d < i := by
  intro i o ho d hd
  have hmem : (o, i) ∈ ops.toList.zipIdx := by
   rw [List.mem_zipIdx_iff_getElem?]
   simpa using ho
  have := List.all_eq_true.1 hback _ hmem
  have := List.all_eq_true.1 this d hd
  simpa using this
 intro fuel
 induction fuel with
 | zero =>
  intro rem listed σ τf a w hl hp hsz hiff hlt hcl hr hrun heq
  have hrem : rem = [] := List.eq_nil_of_length_eq_zero hl
  subst hrem
  simp only [List.map_nil, Runs] at hrun
  subst hrun
  rw [Nat.zero_add]
  exact hQ listed _ a w hsz (fun i hi => by simpa using hiff i hi) hcl hr heq
 | succ fuel ih =>
  intro rem listed σ τf a w hl hp hsz hiff hlt hcl hr hrun heq
  rw [show fuel + 1 + m = (fuel + m) + 1 by omega]
  have hmemready0 : ∀ i, i ∈ Region.ready .any ops listed ↔ (i < ops.size ∧ (i ∈ rem ∨ kb ≤ i)) ∧ ∃ o, ops[i]? = some o ∧ ∀ d ∈ direct o, listed.getD d false = true := by
   intro i
   unfold Region.ready
   rw [List.mem_filter, List.mem_range]
   constructor
   ·rintro ⟨hi, hc⟩
    simp only [Bool.and_eq_true, Bool.not_eq_true'] at hc
    obtain ⟨h1, h2⟩ := hc
    refine ⟨⟨hi, (hiff i hi).2 h1⟩, ops[i], by simp [hi], fun d hd => ?_⟩
    simp only [hi, getElem?_pos, Option.map_some, Option.getD_some] at h2
    simp only [direct, List.mem_map, List.mem_filter] at hd
    obtain ⟨e, ⟨he1, he2⟩, rfl⟩ := hd
    have := Array.all_eq_true_iff_forall_mem.1 h2 e (by simpa using he1)
    simpa [he2] using this
   ·rintro ⟨⟨hi', hi⟩, o, ho, hd⟩
    refine ⟨hi', ?_⟩
    rw [(hiff i hi').1 hi, ho]
    simp only [Bool.not_false, Bool.true_and, Option.map_some, Option.getD_some]
    rw [Array.all_eq_true_iff_forall_mem]
    intro e he
    cases hb : Region.binds .any e with
    | false => rfl
    | true =>
     have := hd e.on (by
      simp only [direct, List.mem_map, List.mem_filter]
      exact ⟨e, ⟨by simpa using he, hb⟩, rfl⟩)
     simp only [this]
     rfl
  have hdt0 : ∀ (o : Oper), (∀ d ∈ direct o, listed.getD d false = true) → ∀ d ∈ direct o, listed.getD d true = true := by
   intro o hd d hdd
   have h1 := hd d hdd
   by_cases hds : d < listed.size
   ·simp only [Array.getD, hds, dif_pos] at h1 ⊢
    exact h1
   ·simp [Array.getD, hds]
  have hbef := befN_spec ops.toList (fun d => listed.getD d true = true) (fun k u hu => hcl k u (by simpa using hu)) ops.toList [] (fun k u hu => by simpa using hu) (fun k x hx => by simp at hx)
  have hmemready : ∀ i, i ∈ Region.ready .any ops listed ↔ i ∈ rem ∧ ∃ o, ops[i]? = some o ∧ ∀ d ∈ direct o, listed.getD d false = true := by
   intro i
   rw [hmemready0]
   constructor
   ·rintro ⟨⟨hi, hik⟩, o, ho, hd⟩
    rcases hik with hik | hik
    ·exact ⟨hik, o, ho, hd⟩
    ·exfalso
     have hb1 := List.all_eq_true.1 hbar
     have waits : ∀ j, ((befN ops.toList []).getD i 0).testBit j = true → listed.getD j true = true := by
      intro j hj
      cases hb : (befN ops.toList [])[i]? with
      | none => rw [List.getD_eq_getElem?_getD, hb] at hj; simp at hj
      | some x =>
       rw [List.getD_eq_getElem?_getD, hb] at hj
       exact hbef i x hb o (by simpa using ho) (hdt0 o hd) j hj
     by_cases e : i = kb
     ·subst e
      cases rem with
      | nil => simp at hl
      | cons j0 r =>
       have hj0 := hlt j0 (by simp)
       have h2 := hb1 j0 (by simp; omega)
       rw [if_pos hj0] at h2
       have h3 := waits j0 h2
       have h4 := (hiff j0 (by omega)).1 (.inl (by simp))
       rw [h4] at h3
       simp at h3
     ·have h2 := hb1 i (by simpa using hi)
      rw [if_neg (by omega), if_pos (by omega)] at h2
      have h3 := waits kb h2
      have h4 := (hiff kb hkb).1 (.inr (Nat.le_refl _))
      rw [h4] at h3
      simp at h3
   ·rintro ⟨hi, h⟩
    exact ⟨⟨by have := hlt i hi; omega, .inl hi⟩, h⟩
  refine ⟨?_, ?_⟩
  ·-- somebody is ready
   intro hnone
   cases rem with
   | nil => simp at hl
   | cons i r =>
    exfalso
    have hik := hlt i (by simp)
    have hi : i < ops.size := by omega
    have : i ∈ Region.ready .any ops listed := by
     rw [hmemready]
     refine ⟨by simp, ops[i], by simp [hi], fun d hd => ?_⟩
     have hdi := hback' i ops[i] (by simp [hi]) d hd
     have hd' : d < ops.size := by omega
     have hnd : d ∉ i :: r := by
      intro hmem
      cases List.mem_cons.1 hmem with
      | inl e => omega
      | inr e => have := (List.pairwise_cons.1 hp).1 d e; omega
     have hld : listed.getD d true ≠ false := fun e => by
      rcases (hiff d hd').2 e with h9 | h9
      ·exact hnd h9
      ·omega
     have hds : d < listed.size := by omega
     simp only [Array.getD, hds, dif_pos] at hld ⊢
     simpa using hld
    rw [hnone] at this
    simp at this
  ·intro i hi
   rw [hmemready] at hi
   obtain ⟨hirem, o, ho, hd⟩ := hi
   have hilk := hlt i hirem
   have hilt : i < ops.size := by omega
   have hiv : i < vs.length := by rw [← hlen]; simpa using hilt
   obtain ⟨r1, r2, rfl⟩ := split_mem hirem
   simp only [List.map_append, List.map_cons] at hrun
   have hvi : vs[i]? = some vs[i] := by simp [hiv]
   rw [hvi] at hrun
   simp only [Option.getD_some] at hrun
   have hdt : ∀ d ∈ direct o, listed.getD d true = true := by
    intro d hdd
    have h1 := hd d hdd
    by_cases hds : d < listed.size
    ·simp only [Array.getD, hds, dif_pos] at h1 ⊢
     exact h1
    ·simp [Array.getD, hds]
   obtain ⟨v, e, h1, τf', h2, h3⟩ := pull hrun (by
    intro x hx
    obtain ⟨j, hj, rfl⟩ := List.mem_map.1 hx
    have hji : j < i := by
     have := List.pairwise_append.1 hp
     exact this.2.2 j hj i (by simp)
    have hjlt : j < ops.size := by omega
    have hjv : vs[j]? = some vs[j] := by have : j < vs.length := by omega
                                         simp [this]
    rw [hjv]
    simp only [Option.getD_some]
    have hp1 := List.all_eq_true.1 hpairs i (by simpa using hiv)
    have hp2 := List.all_eq_true.1 hp1 j (by simpa using hji)
    simp only [hjv, hvi, Bool.or_eq_true] at hp2
    rcases hp2 with hp2 | hp2
    ·exact hp2
    ·exfalso
     have hcl' := befN_spec ops.toList (fun d => listed.getD d true = true) (fun k u hu => hcl k u (by simpa using hu)) ops.toList [] (fun k u hu => by simpa using hu) (fun k x hx => by simp at hx)
     cases hb : (befN ops.toList [])[i]? with
     | none => rw [List.getD_eq_getElem?_getD, hb] at hp2; simp at hp2
     | some x =>
      rw [List.getD_eq_getElem?_getD, hb] at hp2
      have := hcl' i x hb o (by simpa using ho) hdt j hp2
      have h9 := (hiff j hjlt).1 (.inl (by simp [hj]))
      rw [h9] at this
      simp at this)
   refine stepV_wp hX hY hρ hr ho (hget i o vs[i] (by simpa using ho) hvi) h1 ?_
   intro a' w' hr'
   have hp' : List.Pairwise (· < ·) (r1 ++ r2) := by
    have h9 := List.pairwise_append.1 hp
    exact List.pairwise_append.2 ⟨h9.1, (List.pairwise_cons.1 h9.2.1).2, fun x hx y hy => h9.2.2 x hx y (by simp [hy])⟩
   have hnotin : i ∉ r1 ++ r2 := by
    intro hmem
    have h9 := List.pairwise_append.1 hp
    rcases List.mem_append.1 hmem with hm1 | hm1
    ·have := h9.2.2 i hm1 i (by simp); omega
    ·have := (List.pairwise_cons.1 h9.2.1).1 i hm1; omega
   have hgd : ∀ k, (listed.setIfInBounds i true).getD k true = if k = i then true else listed.getD k true := by
    intro k
    rw [Array.getD_eq_getD_getElem?, Array.getD_eq_getD_getElem?]
    by_cases hk : k = i
    ·subst hk
     rw [if_pos rfl]
     by_cases hks : k < listed.size
     ·simp [hks]
     ·rw [Array.getElem?_eq_none (by simp; omega)]
      rfl
    ·rw [if_neg hk, Array.getElem?_setIfInBounds_ne (fun e => hk e.symm)]
   refine ih (r1 ++ r2) _ _ τf' a' w' (by simp at hl ⊢; omega) hp' (by simpa using hsz) ?_ (fun k hk => hlt k (by
    rcases List.mem_append.1 hk with hm1 | hm1
    ·simp [hm1]
    ·simp [hm1])) ?_ hr' (by simpa using h2) (h3.trans heq)
   ·intro k hk
    rw [hgd]
    by_cases hki : k = i
    ·subst hki
     simp only [if_true]
     exact ⟨fun hmem => hmem.elim (fun x => absurd x hnotin) (fun x => by omega), fun hf => by simp at hf⟩
    ·rw [if_neg hki, ← hiff k hk]
     simp [hki]
   ·intro k u hu hlk d hdd
    rw [hgd] at hlk ⊢
    by_cases hdi : d = i
    ·rw [if_pos hdi]
    ·rw [if_neg hdi]
     by_cases hki : k = i
     ·subst hki
      rw [ho] at hu
      injection hu with hu
      subst hu
      exact hdt d hdd
     ·rw [if_neg hki] at hlk
      exact hcl k u hu hlk d hdd
theorem any_bar {ρ : Option Nat} {fu : Nat} (hX : X.map (·.2) = E.X) (hY : YSnd E.P E.T C0 w0 X KK L) (hρ : E.rd = false → ρ = none) {ops : Array Oper} {l1 l2 : List VOper} {c : VOper} {Q : Exit → Act → World → Prop}
  (hm : mopers E.P n ops ops.toList (l1 ++ c :: l2) = true) (hord : orderOK ops.toList (l1 ++ c :: l2) = true) (hbar : barOK ops.toList l1.length = true) {K : AS → Prop}
  (hQ : ∀ τ a w, R ⟨n, X, KK, L⟩ C0 w0 τ a w → K τ → Q .normal a w) {σ : AS} {a : Act} {w : World} (hr : R ⟨n, X, KK, L⟩ C0 w0 σ a w)
  (hw : WOps E true l1 (WOp E false c (WOps E true l2 K)) σ) : wpAnyIn (Fr ρ) fu E.P .any ops Q ops.size (Array.replicate ops.size false) a w := by
 obtain ⟨hlen, hget⟩ := mopers_get _ _ hm
 have hsz : ops.size = l1.length + (l2.length + 1) := by simpa using hlen
 obtain ⟨σf, hrun, hk1⟩ := runs_of_wops l1 σ hw
 have hmap1 : (List.range l1.length).map (fun i => ((l1 ++ c :: l2)[i]?).getD ⟨none, .mov (.t 0), none⟩) = l1 := by
  apply List.ext_getElem?
  intro i
  rw [List.getElem?_map]
  by_cases hi : i < l1.length
  ·rw [List.getElem?_range hi]
   simp [hi, List.getElem?_append_left hi]
  ·rw [List.getElem?_eq_none (by simp; omega), List.getElem?_eq_none (by omega)]
   rfl
 have h0 : ∀ i, (Array.replicate ops.size false).getD i true = (if i < ops.size then false else true) := by
  intro i
  by_cases hi : i < ops.size <;> simp [hi, Array.getD]
 have key := any_pre (E := E) (X := X) (KK := KK) (L := L) (n := n) (C0 := C0) (w0 := w0) (ρ := ρ) (fu := fu) (Q := Q) hX hY hρ hm hord (σf := σf) (kb := l1.length) (by omega) hbar (m := l2.length + 1) ?_ l1.length (List.range l1.length) (Array.replicate ops.size false) σ σf a w (by simp) (List.pairwise_lt_range) (by simp) ?_ (fun i hi => by simpa using hi) ?_ hr (by rw [hmap1]; exact hrun) (EqS.refl _)
 ·rw [hsz] at key ⊢
  exact key
 ·intro listed τ a w hs hiff hcl hrτ heq
  have hk : l1.length < ops.size := by omega
  obtain ⟨o, ho⟩ : ∃ o, ops[l1.length]? = some o := ⟨ops[l1.length], by simp [hk]⟩
  have hvc : (l1 ++ c :: l2)[l1.length]? = some c := by simp
  have hord0 := hord
  simp only [orderOK, Bool.and_eq_true] at hord
  obtain ⟨hback, hpairs⟩ := hord
  have hback' : ∀ (i : Nat) (o : Oper), ops[i]? = some o → ∀ d ∈ direct o, d < i := by
   intro i o ho d hd
   have hmem : (o, i) ∈ ops.toList.zipIdx := by
    rw [List.mem_zipIdx_iff_getElem?]
    simpa using ho
   have := List.all_eq_true.1 hback _ hmem
   have := List.all_eq_true.1 this d hd
   simpa using this
  have hbef := befN_spec ops.toList (fun d => listed.getD d true = true) (fun k u hu => hcl k u (by simpa using hu)) ops.toList [] (fun k u hu => by simpa using hu) (fun k x hx => by simp at hx)
  have hlow : ∀ j, j < l1.length → listed.getD j true = true := fun j hj => by
   cases h : listed.getD j true with
   | true => rfl
   | false => have := (hiff j (by omega)).2 h; omega
  have hrd : ∀ i, i ∈ Region.ready .any ops listed ↔ i < ops.size ∧ listed.getD i true = false ∧ ∃ o, ops[i]? = some o ∧ ∀ d ∈ direct o, listed.getD d false = true := by
   intro i
   unfold Region.ready
   rw [List.mem_filter, List.mem_range]
   constructor
   ·rintro ⟨hi, hc⟩
    simp only [Bool.and_eq_true, Bool.not_eq_true'] at hc
    obtain ⟨h1, h2⟩ := hc
    refine ⟨hi, h1, ops[i], by simp [hi], fun d hd => ?_⟩
    simp only [hi, getElem?_pos, Option.map_some, Option.getD_some] at h2
    simp only [direct, List.mem_map, List.mem_filter] at hd
    obtain ⟨e, ⟨he1, he2⟩, rfl⟩ := hd
    have := Array.all_eq_true_iff_forall_mem.1 h2 e (by simpa using he1)
    simpa [he2] using this
   ·rintro ⟨hi', hl, o, ho, hd⟩
    refine ⟨hi', ?_⟩
    rw [hl, ho]
    simp only [Bool.not_false, Bool.true_and, Option.map_some, Option.getD_some]
    rw [Array.all_eq_true_iff_forall_mem]
    intro e he
    cases hb : Region.binds .any e with
    | false => rfl
    | true =>
     have := hd e.on (by
      simp only [direct, List.mem_map, List.mem_filter]
      exact ⟨e, ⟨by simpa using he, hb⟩, rfl⟩)
     simp only [this]
     rfl
  have hdf : ∀ d, d < l1.length → listed.getD d false = true := fun d hd => by
   have h1 := hlow d hd
   have hds : d < listed.size := by omega
   simp only [Array.getD, hds, dif_pos] at h1 ⊢
   exact h1
  refine ⟨fun hnone => ?_, fun i hi => ?_⟩
  ·exfalso
   have : l1.length ∈ Region.ready .any ops listed := (hrd _).2 ⟨hk, (hiff _ hk).1 (Nat.le_refl _), o, ho, fun d hd => hdf d (hback' _ o ho d hd)⟩
   rw [hnone] at this
   simp at this
  ·obtain ⟨hi1, hi2, o', ho', hd'⟩ := (hrd i).1 hi
   have hik : i = l1.length := by
    have h1 := (hiff i hi1).2 hi2
    apply Classical.byContradiction
    intro hne
    have h2 := List.all_eq_true.1 hbar i (by simpa using hi1)
    rw [if_neg (by omega), if_pos (by omega)] at h2
    have hdt : ∀ d ∈ direct o', listed.getD d true = true := by
     intro d hdd
     have h1 := hd' d hdd
     by_cases hds : d < listed.size
     ·simp only [Array.getD, hds, dif_pos] at h1 ⊢
      exact h1
     ·simp [Array.getD, hds]
    have h3 : listed.getD l1.length true = true := by
     cases hb : (befN ops.toList [])[i]? with
     | none => rw [List.getD_eq_getElem?_getD, hb] at h2; simp at h2
     | some x =>
      rw [List.getD_eq_getElem?_getD, hb] at h2
      exact hbef i x hb o' (by simpa using ho') hdt _ h2
    have h4 := (hiff l1.length hk).1 (Nat.le_refl _)
    rw [h4] at h3
    simp at h3
   subst hik
   obtain ⟨C, mm, tkk, ownn, hrel⟩ := hrτ
   refine one_wp hX hY hρ (σ := σf) ⟨C, mm, tkk, ownn, hrel.eqs heq⟩ ho (hget _ o c (by simpa using ho) hvc) hk1 ?_
   intro σ' a' w' hr' hn
   obtain ⟨σg, hrun2, hkg⟩ := runs_of_wops l2 σ' hn
   have hgd : ∀ k, (listed.setIfInBounds l1.length true).getD k true = if k = l1.length then true else listed.getD k true := by
    intro k
    rw [Array.getD_eq_getD_getElem?, Array.getD_eq_getD_getElem?]
    by_cases hki : k = l1.length
    ·subst hki
     rw [if_pos rfl]
     simp [hs, hk]
    ·rw [if_neg hki, Array.getElem?_setIfInBounds_ne (fun e => hki e.symm)]
   have hmap2 : ((List.range l2.length).map (fun i => l1.length + 1 + i)).map (fun i => ((l1 ++ c :: l2)[i]?).getD ⟨none, .mov (.t 0), none⟩) = l2 := by
    rw [List.map_map]
    apply List.ext_getElem?
    intro i
    rw [List.getElem?_map]
    by_cases hi : i < l2.length
    ·rw [List.getElem?_range hi]
     have e1 : (l1 ++ c :: l2)[l1.length + 1 + i]? = l2[i]? := by
      rw [List.getElem?_append_right (by omega), show l1.length + 1 + i - l1.length = i + 1 by omega]
      rfl
     simp only [Option.map_some, Function.comp, e1]
     simp [hi]
    ·rw [List.getElem?_eq_none (by simp; omega), List.getElem?_eq_none (by omega)]
     rfl
   refine any_order (E := E) (X := X) (KK := KK) (L := L) (n := n) (C0 := C0) (w0 := w0) (ρ := ρ) (fu := fu) (Q := Q) hX hY hρ hm hord0 (σf := σg) (fun τ a w hrt heqt => ?_) l2.length ((List.range l2.length).map fun i => l1.length + 1 + i) _ σ' σg a' w' (by simp) ?_ (by simpa using hs) ?_ ?_ ?_ hr' (by rw [hmap2]; exact hrun2) (EqS.refl _)
   ·obtain ⟨C, mm, tkk, ownn, hrel⟩ := hrt
    exact hQ σg a w ⟨C, mm, tkk, ownn, hrel.eqs heqt⟩ hkg
   ·rw [List.pairwise_map]
    exact List.Pairwise.imp (fun h => by omega) List.pairwise_lt_range
   ·intro k hkk
    rw [hgd]
    by_cases e : k = l1.length
    ·rw [if_pos e]
     simp
     omega
    ·rw [if_neg e, ← hiff k hkk]
     simp only [List.mem_map, List.mem_range]
     constructor
     ·rintro ⟨x, hx, rfl⟩
      omega
     ·intro h
      exact ⟨k - l1.length - 1, by omega, by omega⟩
   ·intro k hkk
    simp only [List.mem_map, List.mem_range] at hkk
    obtain ⟨x, hx, rfl⟩ := hkk
    omega
   ·intro k u hu hlk d hdd
    rw [hgd] at hlk ⊢
    by_cases hdi : d = l1.length
    ·rw [if_pos hdi]
    ·rw [if_neg hdi]
     by_cases hki : k = l1.length
     ·subst hki
      rw [ho] at hu
      injection hu with hu
      subst hu
      exact hlow d (hback' _ o ho d hdd)
     ·rw [if_neg hki] at hlk
      exact hcl k u hu hlk d hdd
 ·intro i hi
  rw [h0, if_pos hi]
  simp
  omega
 ·intro i o ho hli
  have hi : i < ops.size := (Array.getElem?_eq_some_iff.1 ho).1
  rw [h0, if_pos hi] at hli
  simp at hli
end
end Go.V

set_option linter.unusedSimpArgs false
set_option linter.unusedVariables false
set_option linter.unnecessarySimpa false
namespace Go.V
open Go Go.RowKit
section
variable {E : Env} {n : Nat} {X : List (Array Value × List (Nat × AV))} {KK : List (Nat × Obj)} {L : Option (Nat × (Option Ex → Obj))}
variable {C0 : Nat → Nat → Prop} {w0 : World}
theorem any_step {ρ : Option Nat} {fu : Nat} (hX : X.map (·.2) = E.X) (hY : YSnd E.P E.T C0 w0 X KK L) (hρ : E.rd = false → ρ = none) {ops : Array Oper} {vs : List VOper} {Q : Exit → Act → World → Prop}
  (hm : mopers E.P n ops ops.toList vs = true) (hord : orderOK ops.toList vs = true) {k0 kb : Nat} {l : List VOper} {c : VOper} (hl : kb = k0 + l.length) (hkb : kb < ops.size)
  (hvl : ∀ i, i < l.length → vs[k0 + i]? = l[i]?) (hvc : vs[kb]? = some c) (hbar : barOK ops.toList kb = true) {K2 : AS → Prop} {m : Nat}
  (hcont : ∀ (listed : Array Bool) τ a w, listed.size = ops.size → (∀ i, i < ops.size → (kb < i ↔ listed.getD i true = false)) → (∀ (i : Nat) (o : Oper), ops[i]? = some o → listed.getD i true = true → ∀ d ∈ direct o, listed.getD d true = true) →
   R ⟨n, X, KK, L⟩ C0 w0 τ a w → K2 τ → wpAnyIn (Fr ρ) fu E.P .any ops Q m listed a w)
  {listed0 : Array Bool} {σ : AS} {a : Act} {w : World} (hs0 : listed0.size = ops.size) (hiff0 : ∀ i, i < ops.size → (k0 ≤ i ↔ listed0.getD i true = false))
  (hcl0 : ∀ (i : Nat) (o : Oper), ops[i]? = some o → listed0.getD i true = true → ∀ d ∈ direct o, listed0.getD d true = true) (hr : R ⟨n, X, KK, L⟩ C0 w0 σ a w)
  (hw : WOps E true l (WOp E false c K2) σ) : wpAnyIn (Fr ρ) fu E.P .any ops Q (l.length + (m + 1)) listed0 a w := by
 obtain ⟨hlen, hget⟩ := mopers_get _ _ hm
 obtain ⟨σf, hrun, hk1⟩ := runs_of_wops l σ hw
 have hmap1 : ((List.range l.length).map (fun i => k0 + i)).map (fun i => (vs[i]?).getD ⟨none, .mov (.t 0), none⟩) = l := by
  rw [List.map_map]
  apply List.ext_getElem?
  intro i
  rw [List.getElem?_map]
  by_cases hi : i < l.length
  ·rw [List.getElem?_range hi]
   simp only [Option.map_some, Function.comp, hvl i hi]
   simp [hi]
  ·rw [List.getElem?_eq_none (by simp; omega), List.getElem?_eq_none (by omega)]
   rfl
 refine any_pre (E := E) (X := X) (KK := KK) (L := L) (n := n) (C0 := C0) (w0 := w0) (ρ := ρ) (fu := fu) (Q := Q) hX hY hρ hm hord (σf := σf) (kb := kb) hkb hbar (m := m + 1) ?_ l.length ((List.range l.length).map (fun i => k0 + i)) listed0 σ σf a w (by simp) ?_ hs0 ?_ ?_ hcl0 hr (by rw [hmap1]; exact hrun) (EqS.refl _)
 ·intro listed τ a w hs hiff hcl hrτ heq
  have hk : kb < ops.size := hkb
  obtain ⟨o, ho⟩ : ∃ o, ops[kb]? = some o := ⟨ops[kb], by simp [hk]⟩
  have hvc : vs[kb]? = some c := hvc
  have hord0 := hord
  simp only [orderOK, Bool.and_eq_true] at hord
  obtain ⟨hback, hpairs⟩ := hord
  have hback' : ∀ (i : Nat) (o : Oper), ops[i]? = some o → ∀ d ∈ direct o, d < i := by
   intro i o ho d hd
   have hmem : (o, i) ∈ ops.toList.zipIdx := by
    rw [List.mem_zipIdx_iff_getElem?]
    simpa using ho
   have := List.all_eq_true.1 hback _ hmem
   have := List.all_eq_true.1 this d hd
   simpa using this
  have hbef := befN_spec ops.toList (fun d => listed.getD d true = true) (fun k u hu => hcl k u (by simpa using hu)) ops.toList [] (fun k u hu => by simpa using hu) (fun k x hx => by simp at hx)
  have hlow : ∀ j, j < kb → listed.getD j true = true := fun j hj => by
   cases h : listed.getD j true with
   | true => rfl
   | false => have := (hiff j (by omega)).2 h; omega
  have hrd : ∀ i, i ∈ Region.ready .any ops listed ↔ i < ops.size ∧ listed.getD i true = false ∧ ∃ o, ops[i]? = some o ∧ ∀ d ∈ direct o, listed.getD d false = true := by
   intro i
   unfold Region.ready
   rw [List.mem_filter, List.mem_range]
   constructor
   ·rintro ⟨hi, hc⟩
    simp only [Bool.and_eq_true, Bool.not_eq_true'] at hc
    obtain ⟨h1, h2⟩ := hc
    refine ⟨hi, h1, ops[i], by simp [hi], fun d hd => ?_⟩
    simp only [hi, getElem?_pos, Option.map_some, Option.getD_some] at h2
    simp only [direct, List.mem_map, List.mem_filter] at hd
    obtain ⟨e, ⟨he1, he2⟩, rfl⟩ := hd
    have := Array.all_eq_true_iff_forall_mem.1 h2 e (by simpa using he1)
    simpa [he2] using this
   ·rintro ⟨hi', hl, o, ho, hd⟩
    refine ⟨hi', ?_⟩
    rw [hl, ho]
    simp only [Bool.not_false, Bool.true_and, Option.map_some, Option.getD_some]
    rw [Array.all_eq_true_iff_forall_mem]
    intro e he
    cases hb : Region.binds .any e with
    | false => rfl
    | true =>
     have := hd e.on (by
      simp only [direct, List.mem_map, List.mem_filter]
      exact ⟨e, ⟨by simpa using he, hb⟩, rfl⟩)
     simp only [this]
     rfl
  have hdf : ∀ d, d < kb → listed.getD d false = true := fun d hd => by
   have h1 := hlow d hd
   have hds : d < listed.size := by omega
   simp only [Array.getD, hds, dif_pos] at h1 ⊢
   exact h1
  refine ⟨fun hnone => ?_, fun i hi => ?_⟩
  ·exfalso
   have : kb ∈ Region.ready .any ops listed := (hrd _).2 ⟨hk, (hiff _ hk).1 (Nat.le_refl _), o, ho, fun d hd => hdf d (hback' _ o ho d hd)⟩
   rw [hnone] at this
   simp at this
  ·obtain ⟨hi1, hi2, o', ho', hd'⟩ := (hrd i).1 hi
   have hik : i = kb := by
    have h1 := (hiff i hi1).2 hi2
    apply Classical.byContradiction
    intro hne
    have h2 := List.all_eq_true.1 hbar i (by simpa using hi1)
    rw [if_neg (by omega), if_pos (by omega)] at h2
    have hdt : ∀ d ∈ direct o', listed.getD d true = true := by
     intro d hdd
     have h1 := hd' d hdd
     by_cases hds : d < listed.size
     ·simp only [Array.getD, hds, dif_pos] at h1 ⊢
      exact h1
     ·simp [Array.getD, hds]
    have h3 : listed.getD kb true = true := by
     cases hb : (befN ops.toList [])[i]? with
     | none => rw [List.getD_eq_getElem?_getD, hb] at h2; simp at h2
     | some x =>
      rw [List.getD_eq_getElem?_getD, hb] at h2
      exact hbef i x hb o' (by simpa using ho') hdt _ h2
    have h4 := (hiff kb hk).1 (Nat.le_refl _)
    rw [h4] at h3
    simp at h3
   rw [hik]
   obtain ⟨C, mm, tkk, ownn, hrel⟩ := hrτ
   refine one_wp hX hY hρ (σ := σf) ⟨C, mm, tkk, ownn, hrel.eqs heq⟩ ho (hget _ o c (by simpa using ho) hvc) hk1 ?_
   intro σ' a' w' hr' hn
   refine hcont _ σ' a' w' (by simpa using hs) ?_ ?_ hr' hn
   ·intro k hkk
    have hgd : (listed.setIfInBounds kb true).getD k true = if k = kb then true else listed.getD k true := by
     rw [Array.getD_eq_getD_getElem?, Array.getD_eq_getD_getElem?]
     by_cases hki : k = kb
     ·subst hki
      rw [if_pos rfl]
      simp [hs, hk]
     ·rw [if_neg hki, Array.getElem?_setIfInBounds_ne (fun e => hki e.symm)]
    rw [hgd]
    by_cases e : k = kb
    ·rw [if_pos e]
     simp
     omega
    ·rw [if_neg e, ← hiff k hkk]
     omega
   ·have hgd : ∀ k, (listed.setIfInBounds kb true).getD k true = if k = kb then true else listed.getD k true := by
     intro k
     rw [Array.getD_eq_getD_getElem?, Array.getD_eq_getD_getElem?]
     by_cases hki : k = kb
     ·subst hki
      rw [if_pos rfl]
      simp [hs, hk]
     ·rw [if_neg hki, Array.getElem?_setIfInBounds_ne (fun e => hki e.symm)]
    intro k u hu hlk d hdd
    rw [hgd] at hlk ⊢
    by_cases hdi : d = kb
    ·rw [if_pos hdi]
    ·rw [if_neg hdi]
     by_cases hki : k = kb
     ·subst hki
      rw [ho] at hu
      injection hu with hu
      subst hu
      exact hlow d (hback' _ o ho d hdd)
     ·rw [if_neg hki] at hlk
      exact hcl k u hu hlk d hdd
 ·rw [List.pairwise_map]
  exact List.Pairwise.imp (fun h => by omega) List.pairwise_lt_range
 ·intro i hi
  rw [← hiff0 i hi]
  simp only [List.mem_map, List.mem_range]
  constructor
  ·rintro (⟨x, hx, rfl⟩ | h)
   ·omega
   ·omega
  ·intro h
   by_cases h2 : kb ≤ i
   ·exact .inr h2
   ·exact .inl ⟨i - k0, by omega, by omega⟩
 ·intro i hi
  simp only [List.mem_map, List.mem_range] at hi
  obtain ⟨x, hx, rfl⟩ := hi
  omega
theorem any_bar2 {ρ : Option Nat} {fu : Nat} (hX : X.map (·.2) = E.X) (hY : YSnd E.P E.T C0 w0 X KK L) (hρ : E.rd = false → ρ = none) {ops : Array Oper} {l1 l2 l3 : List VOper} {c c' : VOper} {Q : Exit → Act → World → Prop}
  (hm : mopers E.P n ops ops.toList (l1 ++ c :: (l2 ++ c' :: l3)) = true) (hord : orderOK ops.toList (l1 ++ c :: (l2 ++ c' :: l3)) = true) (hbar : barOK ops.toList l1.length = true) (hbar2 : barOK ops.toList (l1.length + 1 + l2.length) = true) {K : AS → Prop}
  (hQ : ∀ τ a w, R ⟨n, X, KK, L⟩ C0 w0 τ a w → K τ → Q .normal a w) {σ : AS} {a : Act} {w : World} (hr : R ⟨n, X, KK, L⟩ C0 w0 σ a w)
  (hw : WOps E true l1 (WOp E false c (WOps E true l2 (WOp E false c' (WOps E true l3 K)))) σ) : wpAnyIn (Fr ρ) fu E.P .any ops Q ops.size (Array.replicate ops.size false) a w := by
 obtain ⟨hlen, hget⟩ := mopers_get _ _ hm
 have hsz : ops.size = l1.length + (l2.length + (l3.length + 1) + 1) := by simpa using hlen
 have h0 : ∀ i, (Array.replicate ops.size false).getD i true = (if i < ops.size then false else true) := by
  intro i
  by_cases hi : i < ops.size <;> simp [hi, Array.getD]
 have hfuel : ops.size = l1.length + ((l2.length + (l3.length + 1)) + 1) := hsz
 rw [show wpAnyIn (Fr ρ) fu E.P .any ops Q ops.size (Array.replicate ops.size false) a w = wpAnyIn (Fr ρ) fu E.P .any ops Q (l1.length + ((l2.length + (l3.length + 1)) + 1)) (Array.replicate ops.size false) a w by rw [← hfuel]]
 refine any_step hX hY hρ hm hord (k0 := 0) (kb := l1.length) (l := l1) (c := c) (by omega) (by omega) (fun i hi => by rw [Nat.zero_add, List.getElem?_append_left hi]) (by simp) hbar (K2 := WOps E true l2 (WOp E false c' (WOps E true l3 K))) (m := l2.length + (l3.length + 1)) ?_ (by simp) (fun i hi => by rw [h0, if_pos hi]; simp) ?_ hr hw
 ·intro listed τ a w hs hiff hcl hrτ hk
  refine any_step hX hY hρ hm hord (k0 := l1.length + 1) (kb := l1.length + 1 + l2.length) (l := l2) (c := c') rfl (by omega) (fun i hi => ?_) ?_ hbar2 (K2 := WOps E true l3 K) (m := l3.length) ?_ hs (fun i hi => by rw [← hiff i hi]; omega) hcl hrτ hk
  ·rw [List.getElem?_append_right (by omega), show l1.length + 1 + i - l1.length = i + 1 by omega, List.getElem?_cons_succ, List.getElem?_append_left hi]
  ·rw [List.getElem?_append_right (by omega), show l1.length + 1 + l2.length - l1.length = l2.length + 1 by omega, List.getElem?_cons_succ, List.getElem?_append_right (by omega)]
   simp
  ·intro listed τ a w hs hiff hcl hrτ hk
   obtain ⟨σg, hrun2, hkg⟩ := runs_of_wops l3 τ hk
   have hmap2 : ((List.range l3.length).map (fun i => l1.length + 1 + l2.length + 1 + i)).map (fun i => ((l1 ++ c :: (l2 ++ c' :: l3))[i]?).getD ⟨none, .mov (.t 0), none⟩) = l3 := by
    rw [List.map_map]
    apply List.ext_getElem?
    intro i
    rw [List.getElem?_map]
    by_cases hi : i < l3.length
    ·rw [List.getElem?_range hi]
     have e1 : (l1 ++ c :: (l2 ++ c' :: l3))[l1.length + 1 + l2.length + 1 + i]? = l3[i]? := by
      rw [List.getElem?_append_right (by omega), show l1.length + 1 + l2.length + 1 + i - l1.length = l2.length + (i + 1) + 1 by omega, List.getElem?_cons_succ, List.getElem?_append_right (by omega), show l2.length + (i + 1) - l2.length = i + 1 by omega]
      rfl
     simp only [Option.map_some, Function.comp, e1]
     simp [hi]
    ·rw [List.getElem?_eq_none (by simp; omega), List.getElem?_eq_none (by omega)]
     rfl
   refine any_order (E := E) (X := X) (KK := KK) (L := L) (n := n) (C0 := C0) (w0 := w0) (ρ := ρ) (fu := fu) (Q := Q) hX hY hρ hm hord (σf := σg) (fun τ a w hrt heqt => ?_) l3.length ((List.range l3.length).map fun i => l1.length + 1 + l2.length + 1 + i) _ τ σg a w (by simp) ?_ (by simpa using hs) ?_ ?_ hcl hrτ (by rw [hmap2]; exact hrun2) (EqS.refl _)
   ·obtain ⟨C, mm, tkk, ownn, hrel⟩ := hrt
    exact hQ σg a w ⟨C, mm, tkk, ownn, hrel.eqs heqt⟩ hkg
   ·rw [List.pairwise_map]
    exact List.Pairwise.imp (fun h => by omega) List.pairwise_lt_range
   ·intro i hi
    rw [← hiff i hi]
    simp only [List.mem_map, List.mem_range]
    constructor
    ·rintro ⟨x, hx, rfl⟩
     omega
    ·intro h
     exact ⟨i - (l1.length + 1 + l2.length + 1), by omega, by omega⟩
   ·intro i hi
    simp only [List.mem_map, List.mem_range] at hi
    obtain ⟨x, hx, rfl⟩ := hi
    omega
 ·intro i o ho hli
  have hi : i < ops.size := (Array.getElem?_eq_some_iff.1 ho).1
  rw [h0, if_pos hi] at hli
  simp at hli
end
end Go.V

set_option linter.unusedSimpArgs false
set_option linter.unusedVariables false
set_option linter.unnecessarySimpa false
namespace Go.V
open Go Go.RowKit
def cmatch (P : Program) (N : Nat) : Code → VC → Bool
 | .skip, .skip => true
 | .ret, .ret => true
 | .label _, .skip => true
 | .exit i, .exit j => i == j
 | .region _ ops draw, .ops dr l _ => mopers P N ops ops.toList l && dr == draw && (!draw || orderOK ops.toList l)
 | .region _ ops draw, .opsN dr l _ => mopers P N ops ops.toList l && dr == draw && (!draw || orderOK ops.toList l)
 | .region _ ops draw, .mbump t xm k ds _ => draw && bumpOK P N ops t xm k ds
 | .region _ ops draw, .opsB l1 c l2 _ => draw && mopers P N ops ops.toList (l1 ++ c :: l2) && orderOK ops.toList (l1 ++ c :: l2) && barOK ops.toList l1.length
 | .region _ ops draw, .opsB2 l1 c l2 c' l3 _ => draw && mopers P N ops ops.toList (l1 ++ c :: (l2 ++ c' :: l3)) && orderOK ops.toList (l1 ++ c :: (l2 ++ c' :: l3)) && barOK ops.toList l1.length && barOK ops.toList (l1.length + 1 + l2.length)
 | .seq a b, .seq a' b' => cmatch P N a a' && cmatch P N b b'
 | .cond c a b, .cond x a' b' => opd c x && cmatch P N a a' && cmatch P N b b'
 | .block i c, .block j c' => i == j && cmatch P N c c'
 | .loop c, .loop c' => cmatch P N c c'
 | .scope c, .scope c' => cmatch P N c c'
 | .rangeFunc g ps a b, .range x ps' a' b' => opd g x && ps.toList == ps' && ps'.all (fun t => decide (t < N)) && cmatch P N a a' && cmatch P N b b'
 | _, _ => false
section
variable {E : Env} {n : Nat} {X : List (Array Value × List (Nat × AV))} {KK : List (Nat × Obj)} {L : Option (Nat × (Option Ex → Obj))}
variable {C0 : Nat → Nat → Prop} {w0 : World}
theorem get_scopesFr {τ : AS} : ∀ {l : FrL}, scopesFr τ l → ∀ t, inScope τ (get l t)
 | [], _, t => trivial
 | (s, v) :: r, h, t => by
  simp only [get]
  by_cases e : s = t
  ·rw [if_pos e]; exact h.1
  ·rw [if_neg e]; exact get_scopesFr h.2 t
theorem leX_mem {τ : AS} : ∀ {l : List FrL}, leX τ l → ∀ f ∈ l, scopesFr τ f
 | [], _, f, hf => by simp at hf
 | g :: r, h, f, hf => by
  cases List.mem_cons.1 hf with
  | inl e => subst e; exact h.1
  | inr e => exact leX_mem h.2 f e
theorem scopes1_mem {τ : AS} : ∀ {l : List AV}, scopes1 τ l → ∀ v ∈ l, inScope1 τ v
 | [], _, v, hv => by simp at hv
 | g :: r, h, v, hv => by
  cases List.mem_cons.1 hv with
  | inl e => subst e; exact h.1
  | inr e => exact scopes1_mem h.2 v e
theorem scopes2_mem {τ : AS} : ∀ {l : List AV}, scopes2 τ l → ∀ v ∈ l, inScope2 τ v
 | [], _, v, hv => by simp at hv
 | g :: r, h, v, hv => by
  cases List.mem_cons.1 hv with
  | inl e => subst e; exact h.1
  | inr e => exact scopes2_mem h.2 v e
theorem get_leFr {τ : AS} {fr : List (Nat × AV)} : ∀ {l : List (Nat × AV)}, leFr τ fr l → ∀ t, leV (get fr t) (get l t) ∧ inScope τ (get l t)
 | [], _, t => ⟨by unfold leV; simp only [get], trivial⟩
 | (s, v) :: r, h, t => by
  obtain ⟨h1, h2, h3⟩ := h
  simp only [get]
  by_cases e : s = t
  ·rw [if_pos e]; subst e; exact ⟨h1, h2⟩
  ·rw [if_neg e]; exact get_leFr h3 t
theorem get_leHp {τ : AS} {hp : List (Nat × BX)} : ∀ {l : List (Nat × BX)}, leHp τ hp l → ∀ b x, getB l b = some x → getB hp b = some x ∧ scopes τ x.cells
 | [], _, b, x, h => by simp [getB] at h
 | (c, y) :: r, h, b, x, hb => by
  obtain ⟨h1, h2, h3⟩ := h
  simp only [getB] at hb
  split at hb
  ·rename_i e
   subst e
   injection hb with hb
   subst hb
   exact ⟨h1, h2⟩
  ·exact get_leHp h3 b x hb
theorem get_leTk {τ : AS} {tk : List (Nat × Nat)} : ∀ {l : List (Nat × Nat)}, leTk τ tk l → ∀ b x, getT l b = some x → getT tk b = some x
 | [], _, b, x, h => by simp [getT] at h
 | (c, y) :: r, h, b, x, hb => by
  obtain ⟨h1, h3⟩ := h
  simp only [getT] at hb
  split at hb
  ·rename_i e
   subst e
   injection hb with hb
   subst hb
   exact h1
  ·exact get_leTk h3 b x hb
theorem scopes_mem {τ : AS} {l : List AV} (h : scopes τ l) : ∀ v ∈ l, inScope τ v := by
 induction l with
 | nil => simp
 | cons x r ih => intro v hv; cases List.mem_cons.1 hv with
  | inl e => subst e; exact h.1
  | inr e => exact ih h.2 v e
theorem leV_self (v : AV) : leV v v := by
 cases v <;> first | trivial | rfl | skip
 rename_i sz es m
 cases m <;> first | exact ⟨rfl, rfl⟩ | rfl
theorem le_rel {σ τ : AS} {a : Act} {w : World} (h : R ⟨n, X, KK, L⟩ C0 w0 σ a w) (hle : leS σ τ) (hlx : leX τ (X.map (·.2))) : R ⟨n, X, KK, L⟩ C0 w0 τ a w := by
 obtain ⟨C, m, tk, own, h⟩ := h
 obtain ⟨h1, h2, h3, h4⟩ := hle
 let m' : Nat → Option Nat := fun b => if (getB τ.hp b).isSome then m b else none
 let tk' : Nat → Option TK := fun k => if (getT τ.tk k).isSome then tk k else none
 have hrep1 : ∀ {v : Value} {x : AV}, Rep1 C w m v x → inScope1 τ x → Rep1 C w m' v x := by
  intro v x hr hs
  cases x with
  | ptr b off =>
   obtain ⟨blk, e1, e2⟩ := hr
   exact ⟨blk, by simp only [m']; rw [if_pos (show (getB τ.hp b).isSome = true from hs)]; exact e1, e2⟩
  | bsl b off sz n ag =>
   obtain ⟨blk, cap, e1, e2⟩ := hr
   exact ⟨blk, cap, by simp only [m']; rw [if_pos (show (getB τ.hp b).isSome = true from hs)]; exact e1, e2⟩
  | gsl b i u sz n ag =>
   obtain ⟨blk, e1, e2⟩ := hr
   exact ⟨blk, by simp only [m']; rw [if_pos (show (getB τ.hp (V.K b i u)).isSome = true from hs)]; exact e1, e2⟩
  | _ => exact hr
 have hrepT : ∀ {v : Value} {x : AV}, RepT C w m tk v x → inScope2 τ x → RepT C w m' tk' v x := by
  intro v x hr hs
  cases x with
  | sl sz es md =>
   cases md with
   | own k =>
    obtain ⟨e0, T, e1, e2⟩ := hr
    exact ⟨e0, T, by simp only [tk']; rw [if_pos (show (getT τ.tk k).isSome = true from hs)]; exact e1, e2⟩
   | _ => exact hr
  | ptr b off => exact hrep1 (x := .ptr b off) hr hs
  | bsl b off sz n ag => exact hrep1 (x := .bsl b off sz n ag) hr hs
  | gsl b i u sz n ag => exact hrep1 (x := .gsl b i u sz n ag) hr hs
  | _ => exact hr
 have hrep : ∀ {v : Value} {x y : AV}, Rep C w m tk v x → leV x y → inScope τ y → Rep C w m' tk' v y := by
  intro v x y hr hl hs
  have same : x = y → Rep C w m' tk' v y := by
   intro e
   subst e
   cases x with
   | ptr b off =>
    obtain ⟨blk, e1, e2⟩ := hr
    exact ⟨blk, by simp only [m']; rw [if_pos (show (getB τ.hp b).isSome = true from hs)]; exact e1, e2⟩
   | bsl b off sz n ag =>
    obtain ⟨blk, cap, e1, e2⟩ := hr
    exact ⟨blk, cap, by simp only [m']; rw [if_pos (show (getB τ.hp b).isSome = true from hs)]; exact e1, e2⟩
   | gsl b i u sz n ag =>
    obtain ⟨blk, e1, e2⟩ := hr
    exact ⟨blk, by simp only [m']; rw [if_pos (show (getB τ.hp (V.K b i u)).isSome = true from hs)]; exact e1, e2⟩
   | aggw cs =>
    obtain ⟨vs, e1, e2, e3⟩ := hr
    exact ⟨vs, e1, e2, fun j c hj => ⟨(e3 j c hj).1, (e3 j c hj).2.1, hrep1 (e3 j c hj).2.2 (scopes1_mem hs c (List.mem_of_getElem? hj))⟩⟩
   | tupw cs =>
    obtain ⟨vs, e1, e2, e3⟩ := hr
    exact ⟨vs, e1, e2, fun j c hj => hrepT (e3 j c hj) (scopes2_mem hs c (List.mem_of_getElem? hj))⟩
   | lsl sz n cs =>
    obtain ⟨blk, f, e1, e2, e3⟩ := hr
    refine ⟨blk, f, e1, e2, fun j c hj => ?_⟩
    obtain ⟨k1, k2, k3, k4, k5⟩ := e3 j c hj
    exact ⟨k1, k2, k3, k4, hrep1 k5 (scopes1_mem hs c (List.mem_of_getElem? hj))⟩
   | clw f first caps =>
    obtain ⟨vf, vc, e1, e2, e3, e4, e5⟩ := hr
    exact ⟨vf, vc, e1, e2, e3, fun j c hj => ⟨(e4 j c hj).1, hrep1 (e4 j c hj).2 (scopes1_mem hs.1 c (List.mem_of_getElem? hj))⟩, fun j c hj => ⟨(e5 j c hj).1, hrep1 (e5 j c hj).2 (scopes1_mem hs.2 c (List.mem_of_getElem? hj))⟩⟩
   | sl sz es md =>
    cases md with
    | own k =>
     obtain ⟨e0, T, e1, e2⟩ := hr
     exact ⟨e0, T, by simp only [tk']; rw [if_pos (show (getT τ.tk k).isSome = true from hs)]; exact e1, e2⟩
    | _ => exact hr
   | _ => exact hr
  unfold leV at hl
  split at hl
  ·trivial
  ·obtain ⟨rfl, rfl⟩ := hl
   exact rep_sl hr
  ·exact same hl
 refine ⟨C, m', tk', own, ?_⟩
 refine { gf := h.gf, below := h.below, c0 := h.c0, cnew := h.cnew, cval := h.cval, nc := by rw [← h4]; exact h.nc, ext := ?_, size := h.size, slots := fun t => hrep (h.slots t) (get_leFr h1 t).1 (get_leFr h1 t).2, boxes := ?_, mdom := ?_, toks := ?_, tdom := ?_, owned := h.owned, owns := h.owns }
 ·intro p hp t
  exact hrep (h.ext p hp t) (leV_self _) (get_scopesFr (leX_mem hlx p.2 (List.mem_map.2 ⟨p, hp, rfl⟩)) t)
 ·intro b bx hb
  obtain ⟨q1, q2⟩ := get_leHp h2 b bx hb
  obtain ⟨blk, e1, e2⟩ := h.boxes b bx q1
  refine ⟨blk, by simp only [m']; rw [if_pos (by rw [hb]; rfl)]; exact e1, ?_⟩
  unfold BoxOK at e2 ⊢
  cases hf : bx.frz with
  | true => simp only [hf] at e2 ⊢; exact e2
  | false =>
   simp only [hf] at e2 ⊢
   rcases e2 with e2 | e2
   ·exact .inl e2
   obtain ⟨f1, f2, f3, vs, ty, f4, f5, f6⟩ := e2
   refine .inr ⟨f1, f2, f3, vs, ty, f4, f5, fun j av hj => ?_⟩
   obtain ⟨g1, g2, g3⟩ := f6 j av hj
   refine ⟨g1, g2, hrep g3 ?_ (scopes_mem q2 av (List.mem_of_getElem? hj))⟩
   unfold leV
   split
   ·trivial
   ·exact ⟨rfl, rfl⟩
   ·rfl
 ·intro b blk hb
  simp only [m'] at hb
  split at hb
  ·assumption
  ·simp at hb
 ·intro k n hk
  have q1 := get_leTk h3 k n hk
  obtain ⟨T, e1, e2, e3⟩ := h.toks k n q1
  exact ⟨T, by simp only [tk']; rw [if_pos (by rw [hk]; rfl)]; exact e1, e2, e3⟩
 ·intro k T hk
  simp only [tk'] at hk
  split at hk
  ·assumption
  ·simp at hk
theorem get_keepL (fr : List (Nat × AV)) (ks : List Nat) (t : Nat) : get (keepL fr ks) t = if t ∈ ks then get fr t else .und := by
 induction ks with
 | nil => simp [keepL, get]
 | cons k r ih =>
  simp only [keepL, get, ih]
  by_cases e : k = t
  ·subst e; simp
  ·rw [if_neg e]
   have : t ≠ k := fun x => e x.symm
   simp [this]
theorem keep_rel {N : Cfg} {σ : AS} {a : Act} {w : World} (ks : Option (List Nat)) (h : R N C0 w0 σ a w) : R N C0 w0 (keep ks σ) a w := by
 cases ks with
 | none => exact h
 | some l =>
  obtain ⟨C, m, tk, own, h⟩ := h
  refine ⟨C, m, tk, own, { gf := h.gf, below := h.below, c0 := h.c0, cnew := h.cnew, cval := h.cval, nc := h.nc, ext := h.ext, size := h.size, slots := fun t => ?_, boxes := h.boxes, mdom := h.mdom, toks := h.toks, tdom := h.tdom, owned := h.owned, owns := h.owns }⟩
  simp only [keep, get_keepL]
  split
  ·exact h.slots t
  ·trivial
def exm : Exit → Ex → Prop
 | .normal, .norm => True
 | .exit i, .exit j => i = j
 | .ret, .ret => True
 | _, _ => False
def QM (N : Cfg) (C0 : Nat → Nat → Prop) (w0 : World) (Q : Ex → AS → Prop) (e : Exit) (a : Act) (w : World) : Prop := ∃ e' σ, exm e e' ∧ Q e' σ ∧ R N C0 w0 σ a w
theorem Rel.setNC {σ : AS} {a : Act} {w : World} {C : Nat → Nat → Prop} {m : Nat → Option Nat} {tk : Nat → Option TK} {own : Nat → Option (Nat ⊕ Nat)} {K1 : List (Nat × Obj)} {L1 : Option (Nat × (Option Ex → Obj))} (pd : Option Ex)
  (h : Rel ⟨n, X, KK, L⟩ C0 w0 σ a w C m tk own) (hk : ∀ q ∈ K1, Stay w0.heap.size w q.1 q.2) (hl : ∀ l f, L1 = some (l, f) → Stay w0.heap.size w l (f pd)) (hdis : ∀ d ∈ a.defers, (∀ q ∈ K1, q.1 ≠ (dk d).1) ∧ ∀ l f, L1 = some (l, f) → l ≠ (dk d).1)
  (hmp : ∀ l i kv, pd = some (.mp l i kv) → w0.heap.size ≤ l ∧ ∃ es ck, w.heap[l]? = some (.map es ck) ∧ MapIs es ck i kv) :
  Rel ⟨n, X, K1, L1⟩ C0 w0 ⟨σ.fr, σ.hp, σ.tk, pd⟩ a w C m tk own :=
 {gf := h.gf, below := h.below, c0 := h.c0, cnew := h.cnew, cval := h.cval, nc := ⟨hk, hl, h.nc.d, h.nc.nd, hdis, hmp⟩, ext := h.ext, size := h.size, slots := h.slots, boxes := h.boxes, mdom := h.mdom, toks := h.toks, tdom := h.tdom, owned := h.owned, owns := h.owns }
theorem cell_putObj {w : World} {l : Nat} {o o' : Obj} (hl : w.heap[l]? = some o) (ho : ctl o = true) (ho' : ctl o' = true) (p : Addr) : (w.putObj l o').cell? p = w.cell? p := by
 simp only [World.cell?]
 by_cases e : p.block = l
 ·rw [e, World.putObj_heap_same (Array.getElem?_eq_some_iff.1 hl).1, hl]
  cases o <;> simp [ctl] at ho <;> cases o' <;> simp [ctl] at ho' <;> rfl
 ·rw [World.putObj_heap_other e]
theorem Rel.putNC {σ : AS} {a : Act} {w : World} {C : Nat → Nat → Prop} {m : Nat → Option Nat} {tk : Nat → Option TK} {own : Nat → Option (Nat ⊕ Nat)} {l : Nat} {o o' : Obj}
  (h : Rel ⟨n, X, KK, none⟩ C0 w0 σ a w C m tk own) (hl : Stay w0.heap.size w l o) (hno : ∀ q ∈ KK, q.1 ≠ l) (hd : ∀ d ∈ a.defers, (dk d).1 ≠ l) (ho' : ctl o' = true) :
  Rel ⟨n, X, KK, none⟩ C0 w0 σ a (w.putObj l o') C m tk own := by
 obtain ⟨l1, l2, l3⟩ := hl
 have hs : Same C w (w.putObj l o') := by
  refine ⟨fun b i _ => cell_putObj l2 l3 ho' _, ?_⟩
  rintro blk k ⟨vs, ty, h1, h2⟩
  refine ⟨vs, ty, ?_, h2⟩
  have : blk ≠ l := by rintro rfl; rw [l2] at h1; injection h1 with h1; subst h1; simp [ctl] at l3
  rw [World.putObj_heap_other this]; exact h1
 have hblk : ∀ {b : Nat} {vs : Array Value} {ty : TypeId} {g : Nat × Nat}, w.heap[b]? = some (.cells vs ty g) → (w.putObj l o').heap[b]? = some (.cells vs ty g) := by
  intro b vs ty g hb
  have : b ≠ l := by rintro rfl; rw [l2] at hb; injection hb with hb; subst hb; simp [ctl] at l3
  rw [World.putObj_heap_other this]; exact hb
 have hst : ∀ {b : Nat} {x : Obj}, b ≠ l → Stay w0.heap.size w b x → Stay w0.heap.size (w.putObj l o') b x := fun hne hs => ⟨hs.1, by rw [World.putObj_heap_other hne]; exact hs.2.1, hs.2.2⟩
 refine { gf := h.gf, below := h.below.trans ⟨rfl, rfl, rfl, by simp, fun k hk => World.putObj_heap_other (by omega)⟩, c0 := h.c0, cnew := h.cnew, cval := fun b i hb => by simpa using h.cval b i hb, nc := ⟨fun q hq => hst (hno q hq) (h.nc.k q hq), (fun _ _ e => by cases e), fun d hdd => ?_, h.nc.nd, (fun d hdd => ⟨(h.nc.dis d hdd).1, fun _ _ e => by cases e⟩), fun l' i kv e => by
            obtain ⟨g1, es, ck, g2, g3⟩ := h.nc.m l' i kv e
            have : l' ≠ l := by
             intro e
             rw [e, l2] at g2
             injection g2 with g2
             rw [g2] at l3
             simp [ctl] at l3
            exact ⟨g1, es, ck, by rw [World.putObj_heap_other this]; exact g2, g3⟩⟩, ext := fun p hp t => (h.ext p hp t).mono (fun _ _ x => x) hs, size := h.size,
          slots := fun t => (h.slots t).mono (fun _ _ x => x) hs, boxes := ?_, mdom := h.mdom, toks := ?_, tdom := h.tdom, owned := fun b x hx => by simpa using h.owned b x hx, owns := h.owns }
 ·obtain ⟨D, rfl, hD⟩ := h.nc.d d hdd
  exact ⟨D, rfl, hst (hd _ hdd) hD⟩
 ·intro b bx hb
  obtain ⟨blk, e1, e2⟩ := h.boxes b bx hb
  refine ⟨blk, e1, ?_⟩
  unfold BoxOK at e2 ⊢
  cases hf : bx.frz with
  | true =>
   simp only [hf] at e2 ⊢
   intro j av hj
   obtain ⟨f1, f2, v, f3, f4⟩ := e2 j av hj
   exact ⟨f1, f2, v, by rw [hs.1 _ _ f1]; exact f3, f4.mono (fun _ _ x => x) hs⟩
  | false =>
   simp only [hf] at e2 ⊢
   rcases e2 with e2 | e2
   ·exact .inl e2
   obtain ⟨f1, f2, f3, vs, ty, f4, f5, f6⟩ := e2
   refine .inr ⟨f1, f2, f3, vs, ty, hblk f4, f5, fun j av hj => ?_⟩
   obtain ⟨g1, g2, g3⟩ := f6 j av hj
   exact ⟨g1, g2, g3.mono (fun _ _ x => x) hs⟩
 ·intro k i hk
  obtain ⟨T, e1, e2, e3, e4⟩ := h.toks k i hk
  refine ⟨T, e1, e2, e3, fun hlt => ?_⟩
  obtain ⟨blk, f1, f2, f3, f4, vs, ty, f5, f6⟩ := e4 hlt
  exact ⟨blk, f1, f2, f3, f4, vs, ty, hblk f5, f6⟩
theorem lp_out {ι : Type} {Xs : List FrL} {st : ι → AS} {I : ι → Prop} {μ : ι → Nat} {x : ι} {Q : Ex → AS → Prop} {σ : AS} (h : Lp Xs st I μ x Q .norm σ) : ∃ y, I y ∧ μ y < μ x ∧ leS σ (st y) ∧ leX (st y) Xs := by
 cases Xs with
 | nil => obtain ⟨y, h1, h2, h3⟩ := h; exact ⟨y, h1, h2, h3, trivial⟩
 | cons f r => exact h
def exCode : Ex → Code
 | .norm => .skip
 | .exit i => .exit i
 | .ret => .ret
 | .mp _ _ _ => .skip
theorem rep_params {w : World} {C : Nat → Nat → Prop} {m : Nat → Option Nat} {tk : Nat → Option TK} : ∀ (ps : List Nat) (vs : List Value) (vals : List AV) (tmps : Array Value) (fr : FrL), vs.length = vals.length → vals.length = ps.length → (∀ t ∈ ps, t < tmps.size) →
  (∀ t : Nat, Rep C w m tk (vs[t]?.getD undef) (vals[t]?.getD .und)) → (∀ t : Nat, Rep C w m tk (tmps[t]?.getD undef) (get fr t)) →
  ((ps.zip vs).foldl (fun t (p, v) => t.setIfInBounds p v) tmps).size = tmps.size ∧ ∀ t : Nat, Rep C w m tk (((ps.zip vs).foldl (fun t (p, v) => t.setIfInBounds p v) tmps)[t]?.getD undef) (get (putL ps vals fr) t)
 | [], vs, vals, tmps, fr, _, h2, _, _, hf => by
  cases vals with
  | nil => exact ⟨by simp, by simpa [putL] using hf⟩
  | cons x r => simp at h2
 | p :: ps, vs, vals, tmps, fr, h1, h2, hlt, hv, hf => by
  cases vals with
  | nil => simp at h2
  | cons x r =>
   cases vs with
   | nil => simp at h1
   | cons v vs =>
    have hp := hlt p (by simp)
    obtain ⟨i1, i2⟩ := rep_params (w := w) (C := C) (m := m) (tk := tk) ps vs r (tmps.setIfInBounds p v) ((p, x) :: fr) (by simpa using h1) (by simpa using h2) (fun t ht => by simpa using hlt t (by simp [ht])) (fun t => by simpa using hv (t + 1)) (fun t => by
     simp only [get]
     by_cases e : p = t
     ·subst e
      rw [if_pos rfl]
      simpa [hp] using hv 0
     ·rw [if_neg e, Array.getElem?_setIfInBounds_ne e]
      exact hf t)
    refine ⟨by simpa using i1, fun t => ?_⟩
    simpa [putL] using i2 t
theorem zip_arr (ps : Array Nat) (vs : Array Value) (tmps : Array Value) : (ps.zip vs).foldl (fun t (p, v) => t.setIfInBounds p v) tmps = (ps.toList.zip vs.toList).foldl (fun t (p, v) => t.setIfInBounds p v) tmps := by
 rw [← Array.foldl_toList]
 congr 1
 simp
theorem wp_sound (hmix : E.P.follows .mixedOrders = true) : ∀ (c : Code) (vc : VC) (rd : Bool) (T : Option (Nat × YT)) (XA : List FrL) (n : Nat) (X : List (Array Value × List (Nat × AV))) (KK : List (Nat × Obj)) (L : Option (Nat × (Option Ex → Obj))) (ρ : Option Nat) (fu : Nat) (Q : Ex → AS → Prop) (σ : AS) (a : Act) (w : World),
  X.map (·.2) = XA → YSnd E.P T C0 w0 X KK L → (rd = false → ρ = none) →
  cmatch E.P n c vc = true → WPx vc ⟨E.P, XA, T, rd⟩ Q σ → R ⟨n, X, KK, L⟩ C0 w0 σ a w → c.wpIn (Fr ρ) fu E.P (QM ⟨n, X, KK, L⟩ C0 w0 Q) a w := by
 intro c
 induction c with
 | skip =>
  intro vc rd T XA n X KK L ρ fu Q σ a w hX hY hρ hm hw hr
  cases vc <;> first | (simp [cmatch] at hm; done) | skip
  exact wpIn_skip ⟨.norm, σ, trivial, hw, hr⟩
 | ret =>
  intro vc rd T XA n X KK L ρ fu Q σ a w hX hY hρ hm hw hr
  cases vc <;> first | (simp [cmatch] at hm; done) | skip
  exact wpIn_ret ⟨.ret, σ, trivial, hw, hr⟩
 | label l =>
  intro vc rd T XA n X KK L ρ fu Q σ a w hX hY hρ hm hw hr
  cases vc <;> first | (simp [cmatch] at hm; done) | skip
  exact wpIn_label ⟨.norm, σ, trivial, hw, hr⟩
 | exit i =>
  intro vc rd T XA n X KK L ρ fu Q σ a w hX hY hρ hm hw hr
  cases vc <;> first | (simp [cmatch] at hm; done) | skip
  rename_i j
  have : i = j := by simpa [cmatch] using hm
  subst this
  exact wpIn_exit ⟨.exit i, σ, rfl, hw, hr⟩
 | region id ops draw =>
  intro vc rd T XA n X KK L ρ fu Q σ a w hX hY hρ hm hw hr
  have go : ∀ (dr : Bool) (l : List VOper) (ks : Option (List Nat)) (σ : AS), ((mopers E.P n ops ops.toList l = true ∧ dr = draw) ∧ (!draw || orderOK ops.toList l) = true) → WOps ⟨E.P, XA, T, rd⟩ dr l (Kp ks (Q .norm)) σ → R ⟨n, X, KK, L⟩ C0 w0 σ a w →
    (Code.region id ops draw).wpIn (Fr ρ) fu E.P (QM ⟨n, X, KK, L⟩ C0 w0 Q) a w := by
   intro dr l ks σ hm hw hr
   obtain ⟨⟨h1, rfl⟩, h2⟩ := hm
   have hK : ∀ τ a w, R ⟨n, X, KK, L⟩ C0 w0 τ a w → Kp ks (Q .norm) τ → QM ⟨n, X, KK, L⟩ C0 w0 Q .normal a w := fun τ a w hr' hk => ⟨.norm, keep ks τ, trivial, hk, keep_rel ks hr'⟩
   cases dr with
   | false => exact wpIn_region_list (wops_list (E := ⟨E.P, XA, T, rd⟩) hX hY hρ hK ops.toList l σ a w h1 hr hw)
   | true =>
    simp only [Bool.not_true, Bool.false_or] at h2
    obtain ⟨σf, hrun, hk⟩ := runs_of_wops l σ hw
    obtain ⟨hlen, _⟩ := mopers_get (E := ⟨E.P, XA, T, rd⟩) _ _ h1
    refine wpIn_region_any hmix ?_
    have hr' : R ⟨n, X, KK, L⟩ C0 w0 σ a { w with drawn := w.drawn + 1 } := by
     obtain ⟨C, m, tk, own, h⟩ := hr
     exact ⟨C, m, tk, own, h.later (w' := w.drew) ((Below.refl _ _).drew) (fun _ _ x => x) (fun _ _ x => .inl x) h.cval⟩
    have hmap : (List.range ops.size).map (fun i => (l[i]?).getD ⟨none, .mov (.t 0), none⟩) = l := by
     apply List.ext_getElem?
     intro i
     rw [List.getElem?_map]
     have hsz : ops.size = l.length := by simpa using hlen
     by_cases hi : i < l.length
     ·rw [List.getElem?_range (by omega)]
      simp [hi]
     ·rw [List.getElem?_eq_none (by simp; omega), List.getElem?_eq_none (by omega)]
      rfl
    refine any_order (E := ⟨E.P, XA, T, rd⟩) hX hY hρ (σf := σf) h1 h2 (fun τ a w hr' heq => ?_) ops.size (List.range ops.size) (Array.replicate ops.size false) σ σf a _ (by simp) (List.pairwise_lt_range) (by simp) ?_ (fun i hi => by simpa using hi) ?_ hr' (by rw [hmap]; exact hrun) (EqS.refl _)
    ·obtain ⟨C, m, tk, own, hrel⟩ := hr'
     exact hK σf a w ⟨C, m, tk, own, hrel.eqs heq⟩ hk
    ·intro i hi
     simp [hi, Array.getD]
    ·intro i o ho hli
     have hi : i < ops.size := (Array.getElem?_eq_some_iff.1 ho).1
     simp [hi, Array.getD] at hli
  cases vc <;> first | (simp [cmatch] at hm; done) | skip
  ·rename_i dr l ks
   simp only [cmatch, Bool.and_eq_true, beq_iff_eq] at hm
   simp only [WPx] at hw
   exact go dr l ks σ hm hw hr
  ·rename_i dr l ks
   simp only [cmatch, Bool.and_eq_true, beq_iff_eq] at hm
   simp only [WPx] at hw
   obtain ⟨bs, hw⟩ := hw
   obtain ⟨C, m, tk, own, hrel⟩ := hr
   obtain ⟨C', own', hrel'⟩ := hrel.nrm bs
   rcases hw with hw | ⟨σ', hle, hlx, hw⟩
   ·exact go dr l ks _ hm hw ⟨C', m, tk, own', hrel'⟩
   ·exact go dr l ks _ hm hw (le_rel ⟨C', m, tk, own', hrel'⟩ hle (by rw [hX]; exact hlx))
  ·rename_i t xm k ds ks
   simp only [cmatch, Bool.and_eq_true] at hm
   obtain ⟨rfl, hb⟩ := hm
   simp only [WPx] at hw
   obtain ⟨hT, l, ln, kv, xs, hpd, hx, ⟨hc, hd⟩, hk, hl, hr2, hM, hq⟩ := hw
   have hL := hY.1 hT
   subst hL
   refine wpIn_region_any hmix ?_
   have hr' : R ⟨n, X, KK, none⟩ C0 w0 σ a { w with drawn := w.drawn + 1 } := by
    obtain ⟨C, m, tk, own, h⟩ := hr
    exact ⟨C, m, tk, own, h.later (w' := w.drew) ((Below.refl _ _).drew) (fun _ _ x => x) (fun _ _ x => .inl x) h.cval⟩
   exact bump_any hb hpd hx hc hd hk hl hr2 hM (fun a w hr3 => ⟨.norm, keep ks _, trivial, hq, keep_rel ks hr3⟩) hr'
  ·rename_i l1 c l2 ks
   simp only [cmatch, Bool.and_eq_true] at hm
   obtain ⟨⟨⟨rfl, h1⟩, h2⟩, h3⟩ := hm
   simp only [WPx] at hw
   have goB : ∀ σ, WOps ⟨E.P, XA, T, rd⟩ true l1 (WOp ⟨E.P, XA, T, rd⟩ false c (WOps ⟨E.P, XA, T, rd⟩ true l2 (Kp ks (Q .norm)))) σ → R ⟨n, X, KK, L⟩ C0 w0 σ a w → (Code.region id ops true).wpIn (Fr ρ) fu E.P (QM ⟨n, X, KK, L⟩ C0 w0 Q) a w := by
    intro σ hw hr
    refine wpIn_region_any hmix ?_
    have hr' : R ⟨n, X, KK, L⟩ C0 w0 σ a { w with drawn := w.drawn + 1 } := by
     obtain ⟨C, m, tk, own, h⟩ := hr
     exact ⟨C, m, tk, own, h.later (w' := w.drew) ((Below.refl _ _).drew) (fun _ _ x => x) (fun _ _ x => .inl x) h.cval⟩
    exact any_bar (E := ⟨E.P, XA, T, rd⟩) hX hY hρ h1 h2 h3 (fun τ a w hrt hk => ⟨.norm, keep ks τ, trivial, hk, keep_rel ks hrt⟩) hr' hw
   obtain ⟨bs, hw⟩ := hw
   obtain ⟨C, m, tk, own, hrel⟩ := hr
   obtain ⟨C', own', hrel'⟩ := hrel.nrm bs
   rcases hw with hw | ⟨σ', hle, hlx, hw⟩
   ·exact goB _ hw ⟨C', m, tk, own', hrel'⟩
   ·rcases hle with hle | hle
    ·exact goB _ hw (le_rel ⟨C', m, tk, own', hrel'⟩ hle (by rw [hX]; exact hlx))
    ·exact goB _ hw (le_rel ⟨C, m, tk, own, hrel⟩ hle (by rw [hX]; exact hlx))
  ·rename_i l1 c l2 c' l3 ks
   simp only [cmatch, Bool.and_eq_true] at hm
   obtain ⟨⟨⟨⟨rfl, h1⟩, h2⟩, h3⟩, h4⟩ := hm
   simp only [WPx] at hw
   refine wpIn_region_any hmix ?_
   have hr' : R ⟨n, X, KK, L⟩ C0 w0 σ a { w with drawn := w.drawn + 1 } := by
    obtain ⟨C, m, tk, own, h⟩ := hr
    exact ⟨C, m, tk, own, h.later (w' := w.drew) ((Below.refl _ _).drew) (fun _ _ x => x) (fun _ _ x => .inl x) h.cval⟩
   exact any_bar2 (E := ⟨E.P, XA, T, rd⟩) hX hY hρ h1 h2 h3 h4 (fun τ a w hrt hk => ⟨.norm, keep ks τ, trivial, hk, keep_rel ks hrt⟩) hr' hw
 | seq x y ihx ihy =>
  intro vc rd T XA n X KK L ρ fu Q σ a w hX hY hρ hm hw hr
  cases vc <;> first | (simp [cmatch] at hm; done) | skip
  rename_i x' y'
  simp only [cmatch, Bool.and_eq_true] at hm
  simp only [WPx] at hw
  refine wpIn_seq (wpIn_mono (ihx x' rd T XA n X KK L ρ fu _ σ a w hX hY hρ hm.1 hw hr) fun e a w hq => ?_)
  obtain ⟨e', τ, he, hq, hr'⟩ := hq
  cases e <;> cases e' <;> first | exact he.elim | skip
  ·exact ihy y' rd T XA n X KK L ρ fu Q τ a w hX hY hρ hm.2 hq hr'
  ·exact ⟨_, τ, he, hq, hr'⟩
  ·exact ⟨_, τ, he, hq, hr'⟩
 | cond c x y ihx ihy =>
  intro vc rd T XA n X KK L ρ fu Q σ a w hX hY hρ hm hw hr
  cases vc <;> first | (simp [cmatch] at hm; done) | skip
  rename_i c' x' y'
  simp only [cmatch, Bool.and_eq_true] at hm
  obtain ⟨⟨h1, h2⟩, h3⟩ := hm
  simp only [WPx] at hw
  have hr2 := hr
  obtain ⟨C, m, tk, own, h⟩ := hr
  have r := opd_rep h h1
  split at hw <;> first | exact hw.elim | skip
  ·rename_i he
   rw [he] at r
   exact wpIn_cond_true (rep_bool r) (ihx x' rd T XA n X KK L ρ fu Q σ a w hX hY hρ h2 hw hr2)
  ·rename_i he
   rw [he] at r
   exact wpIn_cond_false (rep_bool r) (ihy y' rd T XA n X KK L ρ fu Q σ a w hX hY hρ h3 hw hr2)
 | block i c ih =>
  intro vc rd T XA n X KK L ρ fu Q σ a w hX hY hρ hm hw hr
  cases vc <;> first | (simp [cmatch] at hm; done) | skip
  rename_i j c'
  simp only [cmatch, Bool.and_eq_true, beq_iff_eq] at hm
  obtain ⟨rfl, h1⟩ := hm
  simp only [WPx] at hw
  refine wpIn_block (wpIn_mono (ih c' rd T XA n X KK L ρ fu _ σ a w hX hY hρ h1 hw hr) fun e a w hq => ?_)
  obtain ⟨e', τ, he, hq, hr'⟩ := hq
  cases e <;> cases e' <;> first | exact he.elim | skip
  ·exact ⟨.norm, τ, trivial, hq, hr'⟩
  ·rename_i k k'
   have hkk : k = k' := he
   subst hkk
   simp only [Exit.inBlock, Blk] at hq ⊢
   by_cases hki : k = i
   ·rw [if_pos hki]
    simp only [hki, decide_true] at hq
    exact ⟨.norm, τ, trivial, hq, hr'⟩
   ·rw [if_neg hki]
    simp only [hki, decide_false] at hq
    exact ⟨.exit k, τ, rfl, hq, hr'⟩
  ·exact ⟨.ret, τ, trivial, hq, hr'⟩
 | loop c ih =>
  intro vc rd T XA n X KK L ρ fu Q σ a w hX hY hρ hm hw hr
  cases vc <;> first | (simp [cmatch] at hm; done) | skip
  rename_i c'
  simp only [cmatch] at hm
  simp only [WPx] at hw
  obtain ⟨ι, st, I, μ, x₀, bs, hI, hle, hlx, hround⟩ := hw
  subst hX
  have hr : R ⟨n, X, KK, L⟩ C0 w0 (frzS bs σ) a w := by
   obtain ⟨C, m, tk, own, h⟩ := hr
   obtain ⟨C', own', h', _⟩ := h.frzL bs
   exact ⟨C', m, tk, own', h'⟩
  refine wpIn_loop_ghost (fun k a w => ∃ x, I x ∧ μ x = k ∧ R ⟨n, X, KK, L⟩ C0 w0 (st x) a w) (μ x₀) ⟨x₀, hI, rfl, le_rel hr hle hlx⟩ ?_
  rintro k a w ⟨x, hx, rfl, hrx⟩
  refine wpIn_mono (ih c' rd T _ n X KK L ρ fu _ (st x) a w rfl hY hρ hm (hround x hx) hrx) fun e a w hq => ?_
  obtain ⟨e', τ, he, hq, hr'⟩ := hq
  cases e <;> cases e' <;> first | exact he.elim | skip
  ·obtain ⟨y, hy, hlt, hle', hlx'⟩ := lp_out hq
   exact ⟨μ y, hlt, y, hy, rfl, le_rel hr' hle' hlx'⟩
  ·exact ⟨_, τ, he, hq, hr'⟩
  ·exact ⟨_, τ, he, hq, hr'⟩
 | scope c ih =>
  intro vc rd T XA n X KK L ρ fu Q σ a w hX hY hρ hm hw hr
  cases vc <;> first | (simp [cmatch] at hm; done) | skip
  rename_i c'
  simp only [cmatch] at hm
  simp only [WPx] at hw
  obtain ⟨hrd, hw⟩ := hw
  obtain rfl := hρ hrd
  have h1 := ih c' rd T XA n X KK L none fu Q σ a w hX hY hρ hm hw hr
  refine wpIn_wide.2 (wp_scope_straight (wp_mono (wpIn_wide.1 h1) fun e a w hq => ?_))
  obtain ⟨e', τ, he, hq, hr'⟩ := hq
  cases e <;> cases e' <;> first | exact he.elim | exact ⟨_, τ, he, hq, hr'⟩
 | rangeFunc g ps ca cb iha ihb =>
  intro vc rd T XA n X KK L ρ fu Q σ a w hX hY hρ hm hw hr
  cases vc <;> first | (simp [cmatch] at hm; done) | skip
  rename_i x ps' ca' cb'
  simp only [cmatch, Bool.and_eq_true, beq_iff_eq] at hm
  obtain ⟨⟨⟨⟨m1, m2⟩, m3⟩, m4⟩, m5⟩ := hm
  subst m2
  simp only [WPx] at hw
  obtain ⟨hrd, hT, hpd, hw⟩ := hw
  obtain rfl := hρ hrd
  subst hT
  obtain rfl := hY.1 rfl
  obtain ⟨C, m, tk, own, h⟩ := hr
  refine wpIn_rangeFunc ?_
  intro fn hfn
  obtain ⟨rec, hrec⟩ : ∃ rec : LoopState → Option Code → Loop, rec = fun st pe => { state := st, pending := pe, fn, tmps := a.tmps, params := ps, assign := ca, body := cb, defers := w.heap.size } := ⟨_, rfl⟩
  obtain ⟨W1, hW1⟩ : ∃ W1, (w.alloc (.deferred (some []))).alloc (.loop (rec .ready none)) = W1 := ⟨_, rfl⟩
  have hL1 : W1.heap[w.heap.size + 1]? = some (.loop (rec .ready none)) := by
   rw [← hW1]; have := World.alloc_heap_new (w.alloc (.deferred (some []))) (.loop (rec .ready none)); rwa [World.size_alloc] at this
  have hK1 : W1.heap[w.heap.size]? = some (.deferred (some [])) := by
   rw [← hW1]; exact (Below.heap_alloc _ _ _ (by simp)).trans (World.alloc_heap_new w _)
  have hbel : Below w.heap.size w W1 := by rw [← hW1]; exact (((Below.refl _ w).alloc (Nat.le_refl _) _).alloc (by simp) _)
  have hw0 : w0.heap.size ≤ w.heap.size := h.below.size
  have hwl := hw (w.heap.size + 1)
  have rg := opd_rep h m1
  obtain ⟨f, first, caps, vf, vc, hg, hvf, hvc, q1, q2, hcs⟩ : ∃ (f : FuncId) (first caps : List AV) (vf vc : Array Value), a.eval g = .func (.func f) vf vc ∧ vf.size = first.length ∧ vc.size = caps.length ∧
    (∀ (j : Nat) (c : AV), first[j]? = some c → Rep C w m tk (vf[j]?.getD undef) c) ∧ (∀ (j : Nat) (c : AV), caps[j]? = some c → Rep C w m tk (vc[j]?.getD undef) c) ∧
    CSem { P := E.P, X := σ.fr :: XA, T := some (w.heap.size + 1, fun Xa vals hp tk post => vals.length = ps.toList.length ∧
      WPx ca' { P := E.P, X := Xa, T := none, rd := true } (Then (WPx cb' { P := E.P, X := Xa, T := none, rd := true } (BodyQ post)) (fun _ _ => False))
       ⟨putL ps.toList vals σ.fr, hp, tk, none⟩), rd := false } f (first ++ [AV.yld (w.heap.size + 1)] ++ caps) σ.hp σ.tk none
     fun _ hp' tk' pd' => match pd' with
      | none => Q .norm ⟨σ.fr, hp', tk', none⟩
      | some (.mp _ _ _) => False
      | some e => Q e ⟨σ.fr, hp', tk', none⟩ := by
   split at hwl <;> first | exact hwl.elim | skip
   ·rename_i f first caps hev
    rw [hev] at rg
    have rg' : Rep0 C w (a.eval g) (.clo f first caps) := rg
    cases hg : a.eval g <;> rw [hg] at rg' <;> first | (cases rg'; done) | skip
    rename_i fn0 vf vc
    cases rg' with
    | clo f vf vc first caps hf hcc q1 q2 => exact ⟨f, first, caps, vf, vc, rfl, hf, hcc, fun j c hj => (q1 j c hj).toRep, fun j c hj => (q2 j c hj).toRep, hwl⟩
   ·rename_i f first caps hev
    rw [hev] at rg
    obtain ⟨vf, vc, hg, hvf, hvc, q1, q2⟩ := rg
    exact ⟨f, first, caps, vf, vc, hg, hvf, hvc, fun j c hj => rep_of_rep1 (q1 j c hj).2 (q1 j c hj).1, fun j c hj => rep_of_rep1 (q2 j c hj).2 (q2 j c hj).1, hwl⟩
  clear hw hwl
  obtain ⟨hcall, hcs⟩ := hcs
  unfold callable at hcall
  simp only at hcall
  cases hf : E.P.funcs[f]? with
  | none => simp [hf] at hcall
  | some gfn =>
  simp only [hf, Bool.and_eq_true, Bool.not_eq_true'] at hcall
  have hname : ¬ gfn.name = "runtime.NumGoroutine" := by simpa using hcall.1
  have hbody : ¬ gfn.body = none := by intro e; rw [e] at hcall; simp at hcall
  refine ⟨w.heap.size + 1, [{ target := .collected w.heap.size, args := #[] }], W1, { target := .fn (.func f) vc, args := vf ++ #[.func (.yield (w.heap.size + 1)) #[] #[]] }, W1, f,
   vf ++ #[.func (.yield (w.heap.size + 1)) #[] #[]] ++ vc, W1, ?_, ?_, fun _ _ => trivial, ?_, fun x => by simp [Fr, Fence.wide] at x, ?_⟩
  ·rw [← hW1, hrec]; exact run_enterLoop_outer _ _ _ _ _
  ·simp [resolve, hg, Deferred.ofValue]; simp [Act.eval]
  ·simp [invoke, callFunc, hf, hname, hbody]
  obtain ⟨lf, hlf⟩ : ∃ lf : Option Ex → Obj, lf = fun pd => .loop (rec (if pd = none then .ready else .done) (pd.map exCode)) := ⟨_, rfl⟩
  have hlf0 : lf none = .loop (rec .ready none) := by rw [hlf]; rfl
  have hctl : ∀ pd, ctl (lf pd) = true := by intro pd; rw [hlf]; rfl
  have hrel1 : Rel ⟨0, (a.tmps, σ.fr) :: X, (w.heap.size, .deferred (some [])) :: (a.defers.map dk ++ KK), some (w.heap.size + 1, lf)⟩ C0 w0 ⟨[], σ.hp, σ.tk, none⟩ a0 W1 C m tk own := by
   have h1 := h.push.later hbel (fun _ _ x => x) (fun _ _ x => .inl x) (fun b o hb => Nat.lt_of_lt_of_le (h.cval b o hb) hbel.size)
   refine h1.setNC none (fun q hq => ?_) (fun l f e => ?_) (fun d hd => by simp [a0] at hd) (fun _ _ _ e => by cases e)
   ·rcases List.mem_cons.1 hq with rfl | hq
    ·exact ⟨hw0, hK1, rfl⟩
    ·exact h1.nc.k q hq
   ·simp only [Option.some.injEq, Prod.mk.injEq] at e
    obtain ⟨rfl, rfl⟩ := e
    exact ⟨by omega, by rw [hlf0]; exact hL1, hctl _⟩
  have hsame : Same C w W1 := same_of_below h.cval hbel
  have hargs : ∀ t : Nat, Rep C W1 m tk ((vf ++ #[Value.func (.yield (w.heap.size + 1)) #[] #[]] ++ vc)[t]?.getD undef) (get (args0 0 (first ++ [AV.yld (w.heap.size + 1)] ++ caps)) t) := by
   intro t
   rw [get_args]
   rcases Nat.lt_or_ge t first.length with hl | hl
   ·rw [List.append_assoc, List.getElem?_append_left hl, Array.append_assoc, Array.getElem?_append_left (by omega)]
    have : first[t]? = some first[t] := by simp [hl]
    rw [this]
    exact (q1 t _ this).mono (fun _ _ x => x) hsame
   ·rw [List.append_assoc, List.getElem?_append_right hl, Array.append_assoc, Array.getElem?_append_right (by omega), hvf]
    cases hk : t - first.length with
    | zero =>
     rw [Array.getElem?_append_left (by simp)]
     simpa using (Rep0.yld (C := C) (w := W1) (w.heap.size + 1)).toRep
    | succ k =>
     simp only [List.singleton_append, List.getElem?_cons_succ]
     rw [Array.getElem?_append_right (by simp)]
     simp only [List.size_toArray, List.length_cons, List.length_nil, Nat.zero_add, Nat.add_sub_cancel]
     cases hj : caps[k]? with
     | none => exact trivial
     | some c => exact (q2 k c hj).mono (fun _ _ x => x) hsame
  have hKlt : ∀ q ∈ (w.heap.size, Obj.deferred (some [])) :: (a.defers.map dk ++ KK), q.1 ≠ w.heap.size + 1 := by
   intro q hq
   rcases List.mem_cons.1 hq with rfl | hq
   ·simp
   ·have := (h.push.nc.k q hq).2.1
    have := (Array.getElem?_eq_some_iff.1 this).1
    omega
  refine callsIn_fr.2 ((hcs C0 w0 ((a.tmps, σ.fr) :: X) ((w.heap.size, .deferred (some [])) :: (a.defers.map dk ++ KK)) (some (w.heap.size + 1, lf)) W1 _ (by simp [hX]) ?_ ?_ ⟨C, m, tk, own, hrel1.addX hargs⟩).mono ?_)
  ·-- yield does what the body does
   refine ⟨(fun e => by cases e), fun l' T' e => ?_⟩
   simp only [Option.some.injEq, Prod.mk.injEq] at e
   obtain ⟨rfl, rfl⟩ := e
   refine ⟨lf, rfl, fun X' K' vals vs hp tkl post wy hX' hK' hK2 hT hsz hr => ?_⟩
   obtain ⟨hlen, hT⟩ := hT
   obtain ⟨C', m', tk', own', hr⟩ := hr
   have hl0 := (hr.nc.l _ _ rfl)
   have hl := hl0.2.1
   simp only [hlf0] at hl
   have hne : ∀ q ∈ K', q.1 ≠ w.heap.size + 1 := by
    intro q hq e
    rcases hK2 q hq with h2 | h2
    ·exact hKlt q h2 e
    ·have := (hr.nc.k q hq).2.1
     rw [e, hl, h2] at this
     simp at this
   have hext := hr.ext (a.tmps, σ.fr) (by simp [hX' (a.tmps, σ.fr) (by simp)])
   have hextv : ∀ t : Nat, Rep C' wy m' tk' (vs[t]?.getD undef) (vals[t]?.getD .und) := by
    intro t
    have := hr.ext (vs, args0 0 vals) (by simp) t
    rwa [get_args] at this
   obtain ⟨p1, p2⟩ := rep_params (w := wy) (C := C') (m := m') (tk := tk') ps.toList vs.toList vals a.tmps σ.fr (by simpa using hsz) hlen (fun t ht => by rw [h.size]; simpa using List.all_eq_true.1 m3 t ht) (fun t => by simpa using hextv t) hext
   refine ⟨fn, _, ca, cb, by
    have := run_yield (P := E.P) (args := vs) hl (by rw [hrec]; simp only; rw [hsz, hlen]; simp)
    rw [hrec] at this
    exact this, ?_⟩
   have hrel2 : Rel ⟨n, X', (w.heap.size + 1, .loop (rec .ready none)) :: K', none⟩ C0 w0 ⟨putL ps.toList vals σ.fr, hp, tkl, none⟩ ⟨(ps.zip vs).foldl (fun t (p, v) => t.setIfInBounds p v) a.tmps, []⟩ wy C' m' tk' own' := by
    have h1 := hr.setNC (K1 := (w.heap.size + 1, .loop (rec .ready none)) :: K') (L1 := none) none (fun q hq => by
     rcases List.mem_cons.1 hq with rfl | hq
     ·exact ⟨hl0.1, hl, rfl⟩
     ·exact hr.nc.k q hq) (fun _ _ e => by cases e) (fun d hd => by simp [a0] at hd) (fun _ _ _ e => by cases e)
    refine h1.pop (X := X') (KK := (w.heap.size + 1, .loop (rec .ready none)) :: K') (fun t => by rw [zip_arr]; exact p2 t) (fun p hp => by simp [hp]) (fun q hq => hq) (fun d hd => by simp at hd) (by simp) (fun d hd => by simp at hd) ?_
    rw [zip_arr, p1]
    exact h.size
   refine roundIn_of_wpIn trivial ?_
   refine wpIn_mono (iha ca' true none (X'.map (·.2)) n X' _ none (some (w.heap.size + 1)) 0 _ _ _ wy rfl ⟨fun _ => rfl, fun _ _ e => by cases e⟩ (fun e => by cases e) m4 hT ⟨C', m', tk', own', hrel2⟩) fun e a1 w1 hq => ?_
   obtain ⟨e', σ1, he, hq, C1, mm1, tk1, own1, hr1⟩ := hq
   cases e <;> cases e' <;> first | exact he.elim | exact hq.elim | skip
   have hs1 := hr1.nc.k (w.heap.size + 1, .loop (rec .ready none)) (by simp)
   have hl1 := hs1.2.1
   refine ⟨_, run_beginRound hl1 (by rw [hrec]), ?_⟩
   have hkk : ∀ {K2 : List (Nat × Obj)} {o : Obj} {ww : World}, (∀ q ∈ K', Stay w0.heap.size ww q.1 q.2) → Stay w0.heap.size ww (w.heap.size + 1) o → ∀ q ∈ (w.heap.size + 1, o) :: K', Stay w0.heap.size ww q.1 q.2 := by
    intro K2 o ww h1 h2 q hq
    rcases List.mem_cons.1 hq with rfl | hq
    ·exact h2
    ·exact h1 q hq
   have put1 : ∀ {σ2 : AS} {a2 : Act} {w2 : World} {C2 : Nat → Nat → Prop} {m2 : Nat → Option Nat} {tk2 : Nat → Option TK} {own2 : Nat → Option (Nat ⊕ Nat)} {o o' : Obj} (hr2 : Rel ⟨n, X', (w.heap.size + 1, o) :: K', none⟩ C0 w0 σ2 a2 w2 C2 m2 tk2 own2) (hloop : ∀ z, o ≠ .deferred z) (ho' : ctl o' = true),
     Rel ⟨n, X', (w.heap.size + 1, o') :: K', none⟩ C0 w0 σ2 a2 (w2.putObj (w.heap.size + 1) o') C2 m2 tk2 own2 := by
    intro σ2 a2 w2 C2 m2 tk2 own2 o o' hr2 hloop ho'
    have hst := hr2.nc.k (w.heap.size + 1, o) (by simp)
    have h1 := hr2.setNC (K1 := K') (L1 := none) σ2.pd (fun q hq => hr2.nc.k q (by simp [hq])) (fun _ _ e => by cases e) (fun d hd => ⟨fun q hq => (hr2.nc.dis d hd).1 q (by simp [hq]), fun _ _ e => by cases e⟩) hr2.nc.m
    have h2 := h1.putNC (o' := o') hst hne (fun d hd e => by
     obtain ⟨D, rfl, hD⟩ := hr2.nc.d d hd
     have e' : D = w.heap.size + 1 := e
     subst e'
     have := hD.2.1
     rw [hst.2.1] at this
     simp only [Option.some.injEq] at this
     exact hloop _ this) ho'
    refine h2.setNC (K1 := (w.heap.size + 1, o') :: K') (L1 := none) σ2.pd (fun q hq => ?_) (fun _ _ e => by cases e) (fun d hd => ⟨fun q hq => by
     rcases List.mem_cons.1 hq with rfl | hq
     ·exact (hr2.nc.dis d hd).1 (w.heap.size + 1, o) (by simp)
     ·exact (hr2.nc.dis d hd).1 q (by simp [hq]), fun _ _ e => by cases e⟩) h2.nc.m
    rcases List.mem_cons.1 hq with rfl | hq
    ·exact ⟨hst.1, World.putObj_heap_same (Array.getElem?_eq_some_iff.1 hst.2.1).1, ho'⟩
    ·exact h2.nc.k q hq
   have hr2 := put1 hr1 (o' := .loop { rec .ready none with state := .busy }) (fun z e => by cases e) rfl
   refine wpIn_mono (ihb cb' true none (X'.map (·.2)) n X' _ none (some (w.heap.size + 1)) 0 _ _ _ _ rfl ⟨fun _ => rfl, fun _ _ e => by cases e⟩ (fun e => by cases e) m5 hq ⟨C1, mm1, tk1, own1, hr2⟩) fun e a2 w2 hq2 => ?_
   obtain ⟨e', σ2, he2, hq2, C2, m2, tk2, own2, hr3⟩ := hq2
   have hs3 := hr3.nc.k (w.heap.size + 1, .loop { rec .ready none with state := .busy }) (by simp)
   have fin : ∀ (pd' : Option Ex), (∀ l i kv, pd' ≠ some (.mp l i kv)) → R ⟨0, X', K', some (w.heap.size + 1, lf)⟩ C0 w0 ⟨[], σ2.hp, σ2.tk, pd'⟩ a0 (w2.putObj (w.heap.size + 1) (lf pd')) := by
    intro pd' hnm
    have hr4 := put1 hr3 (o' := lf pd') (fun z e => by cases e) (hctl pd')
    refine ⟨C2, m2, tk2, own2, ?_⟩
    have hr5 := hr4.push
    have hr6 := hr5.setNC (K1 := K') (L1 := some (w.heap.size + 1, lf)) pd' (fun q hq => hr4.nc.k q (by simp [hq])) (fun l f e => by
     simp only [Option.some.injEq, Prod.mk.injEq] at e
     obtain ⟨rfl, rfl⟩ := e
     exact hr4.nc.k (w.heap.size + 1, lf pd') (by simp)) (fun d hd => by simp [a0] at hd) (fun l i kv e => absurd e (hnm l i kv))
    exact hr6.pop (X := X') (KK := K') (fun t => trivial) (fun p hp => by simp [hp]) (fun q hq => hq) (fun d hd => by simp at hd) (by simp) (fun d hd => by simp at hd) rfl
   cases e <;> cases e' <;> first | exact he2.elim | skip
   ·refine ⟨_, _, run_endRound none hs3.2.1, true, σ2.hp, σ2.tk, none, rfl, hq2, ?_⟩
    have := fin none (by intro _ _ _ e; cases e)
    rw [show lf none = .loop { rec .ready none with state := .ready, pending := none } from by rw [hlf, hrec]; rfl] at this
    simpa [hrec] using this
   ·rename_i i i'
    have hii : i = i' := he2
    subst hii
    refine ⟨_, _, run_endRound (some (.exit i)) hs3.2.1, false, σ2.hp, σ2.tk, some (.exit i), rfl, hq2, ?_⟩
    have := fin (some (.exit i)) (by intro _ _ _ e; cases e)
    rw [show lf (some (.exit i)) = .loop { rec .ready none with state := .done, pending := some (.exit i) } from by rw [hlf, hrec]; rfl] at this
    simpa [hrec] using this
   ·refine ⟨_, _, run_endRound (some .ret) hs3.2.1, false, σ2.hp, σ2.tk, some .ret, rfl, hq2, ?_⟩
    have := fin (some .ret) (by intro _ _ _ e; cases e)
    rw [show lf (some .ret) = .loop { rec .ready none with state := .done, pending := some .ret } from by rw [hlf, hrec]; rfl] at this
    simpa [hrec] using this
  ·simp only [Array.size_append, List.length_append, hvf, hvc, List.size_toArray, List.length_cons, List.length_nil]
  ·-- behind it
   rintro e w3 ⟨v, r, hp', tk', pd', rfl, hq, C', m', tk2, own', hr⟩
   have hl0 := hr.nc.l _ _ rfl
   have hl : w3.heap[w.heap.size + 1]? = some (.loop (rec (if pd' = none then .ready else .done) (pd'.map exCode))) := by
    have := hl0.2.1; rw [hlf] at this; exact this
   have hnb : (rec (if pd' = none then .ready else .done) (pd'.map exCode)).state ≠ .busy := by rw [hrec]; simp only; split <;> simp
   have hend := run_endLoop (P := E.P) hl hnb
   have h1 := hr.setNC (K1 := (w.heap.size, .deferred (some [])) :: (a.defers.map dk ++ KK)) (L1 := none) none hr.nc.k (fun _ _ e => by cases e) (fun d hd => by simp [a0] at hd) (fun _ _ _ e => by cases e)
   have h2 := h1.putNC (l := w.heap.size + 1) (o' := .loop { rec (if pd' = none then .ready else .done) (pd'.map exCode) with state := .exhausted }) ⟨hl0.1, hl, rfl⟩ hKlt (fun d hd => by simp [a0] at hd) rfl
   have h3 : R ⟨n, X, KK, none⟩ C0 w0 ⟨σ.fr, hp', tk', none⟩ { a with defers := [{ target := .collected w.heap.size, args := #[] }] ++ a.defers } (w3.putObj (w.heap.size + 1) (.loop { rec (if pd' = none then .ready else .done) (pd'.map exCode) with state := .exhausted })) := by
    refine ⟨C', m', tk2, own', h2.pop (X := X) (KK := KK) (fun t => h2.ext (a.tmps, σ.fr) (by simp) t) (fun p hp => by simp [hp]) (fun q hq => by simp [hq]) (fun d hd => ?_) ?_ (fun d hd => ⟨fun q hq => ?_, fun _ _ e => by cases e⟩) h.size⟩
    ·rcases List.mem_append.1 hd with hd | hd
     ·simp only [List.mem_singleton] at hd
      subst hd
      exact ⟨_, rfl, by simp [dk]⟩
     ·obtain ⟨D, e, _⟩ := h.nc.d d hd
      exact ⟨D, e, List.mem_cons.2 (.inr (List.mem_append.2 (.inl (List.mem_map.2 ⟨d, hd, rfl⟩))))⟩
    ·simp only [List.singleton_append, List.map_cons, List.nodup_cons]
     refine ⟨fun hmem => ?_, h.nc.nd⟩
     obtain ⟨d, hd, he⟩ := List.mem_map.1 hmem
     obtain ⟨D, rfl, hD⟩ := h.nc.d d hd
     have := (Array.getElem?_eq_some_iff.1 hD.2.1).1
     have he' : D = w.heap.size := he
     omega
    ·have hq1 := (Array.getElem?_eq_some_iff.1 (h.nc.k q hq).2.1).1
     rcases List.mem_append.1 hd with hd | hd
     ·simp only [List.mem_singleton] at hd
      subst hd
      simp only [dk]
      omega
     ·exact (h.nc.dis d hd).1 q hq
   refine ⟨_, _, hend, ?_⟩
   rw [hrec]
   cases pd' with
   | none => exact ⟨.norm, _, trivial, hq, by rw [hrec] at h3; exact h3⟩
   | some e =>
    cases e with
    | norm => exact wpIn_skip ⟨.norm, _, trivial, hq, by rw [hrec] at h3; exact h3⟩
    | exit i => exact wpIn_exit ⟨.exit i, _, rfl, hq, by rw [hrec] at h3; exact h3⟩
    | ret => exact wpIn_ret ⟨.ret, _, trivial, hq, by rw [hrec] at h3; exact h3⟩
    | mp l i kv => exact hq.elim
 | goto l => intro vc rd T XA n X KK L ρ fu Q σ a w hX hY hρ hm hw hr; cases vc <;> (simp [cmatch] at hm)
 | refuse s => intro vc rd T XA n X KK L ρ fu Q σ a w hX hY hρ hm hw hr; cases vc <;> (simp [cmatch] at hm)
end
end Go.V

set_option linter.unusedSimpArgs false
set_option linter.unusedVariables false
set_option linter.unnecessarySimpa false
namespace Go.V
open Go Go.RowKit
section
variable (P : Program)
def outIds (σ : AS) : List ResultVar → List Nat
 | [] => []
 | .tmp t :: r => (get σ.fr t).bid ++ outIds σ r
 | .cell t _ :: r =>
  (match get σ.fr t with
   | .ptr b _ => match getB σ.hp b with
    | some bx => bids bx.cells ++ [b]
    | none => []
   | _ => []) ++ outIds σ r
def out1 (σ : AS) : ResultVar → AV
 | .tmp t => strip σ.hp (get σ.fr t)
 | .cell t ty =>
  match get σ.fr t with
  | .ptr b 0 => match getB σ.hp b with
   | some ⟨cells, true⟩ => match aggOf P ty with
    | some true => if szOf P ty = some cells.length then .agg cells else .und
    | some false => match cells with
     | [x] => x
     | _ => .und
    | none => .und
   | _ => .und
  | _ => .und
def outs (σ : AS) : List ResultVar → List AV
 | [] => []
 | r :: rs => out1 P σ r :: outs σ rs
def tup1 : List AV → AV
 | [x] => x
 | l => .tup l
def Fin (rs : List ResultVar) (res : AV) : Ex → AS → Prop
 | .exit _, _ => False
 | _, σ => noUnd (outs P (frzS (outIds σ rs) σ) rs) ∧ tup1 (outs P (frzS (outIds σ rs) σ) rs) = res
def start (args : List AV) : AS := ⟨args0 0 args, [], [], none⟩
end
section
variable {P : Program}
variable {N : Cfg} {C0 : Nat → Nat → Prop} {w0 : World} {σ : AS} {a : Act} {w : World} {C : Nat → Nat → Prop} {m : Nat → Option Nat} {tk : Nat → Option TK} {own : Nat → Option (Nat ⊕ Nat)}
def item (tmps : Array Value) : ResultVar → Sem Value
 | .tmp t => pure (tmps.getD t undef)
 | .cell a t => do loadVar t (← asAddr (tmps.getD a undef))
theorem isUnd_ne {av : AV} (h : av.isUnd = false) : av ≠ .und := by intro e; subst e; simp [AV.isUnd] at h
theorem item_run (h : Rel N C0 w0 σ a w C m tk own) (r : ResultVar) (hu : (out1 P σ r).isUnd = false) :
  ∃ v, (item a.tmps r).run P w = .ok v w ∧ Rep0 C w v (out1 P σ r) := by
 cases r with
 | tmp t =>
  refine ⟨a.tmps[t]?.getD undef, by simp [item], ?_⟩
  exact strip_rep h (h.slots t) (isUnd_ne hu)
 | cell t ty =>
  have hs := h.slots t
  simp only [out1] at hu ⊢
  revert hu
  generalize get σ.fr t = av at hs ⊢
  cases av with
  | ptr b off =>
   cases off with
   | succ o => simp [AV.isUnd]
   | zero =>
    simp only
    obtain ⟨blk, hm1, hv⟩ := hs
    cases hg : getB σ.hp b with
    | none => simp [AV.isUnd]
    | some bx =>
     obtain ⟨cells, fz⟩ := bx
     cases fz with
     | false => simp [AV.isUnd]
     | true =>
      simp only
      obtain ⟨blk', hm2, hbox⟩ := h.boxes b _ hg
      rw [hm1] at hm2
      obtain rfl : blk = blk' := by simpa using hm2
      simp only [BoxOK] at hbox
      cases ha : aggOf P ty with
      | none => simp [AV.isUnd]
      | some g =>
       cases g with
       | true =>
        simp only
        by_cases hs : szOf P ty = some cells.length
        ·rw [if_pos hs]
         intro _
         have hcell : ∀ j, j < cells.length → w.cell? ((⟨blk, 0, none⟩ : Addr).add j) = some ((w.cell? ⟨blk, j, none⟩).getD undef) := by
          intro j hj
          obtain ⟨_, _, v, hv, _⟩ := hbox j cells[j] (by simp [hj])
          rw [add_none, Nat.zero_add, hv]
          rfl
         have hl := run_loadCells (P := P) w ⟨blk, 0, none⟩ cells.length (fun j => (w.cell? ⟨blk, j, none⟩).getD undef) hcell
         refine ⟨_, by simp [item, hv, asAddr, loadVar, run_aggOf ha, run_szOf hs, hl]; rfl, ?_⟩
         refine .agg _ _ (by simp) (fun j c hj => (hbox j c hj).2.1) fun j c hj => ?_
         obtain ⟨_, _, v, hv, hr⟩ := hbox j c hj
         have hlt := (List.getElem?_eq_some_iff.1 hj).1
         simpa [hlt, hv] using hr
        ·rw [if_neg hs]
         simp [AV.isUnd]
       | false =>
        simp only
        split
        ·rename_i x
         intro _
         obtain ⟨_, _, v, hc, hr⟩ := hbox 0 x rfl
         refine ⟨v, by simp [item, hv, asAddr, loadVar, run_aggOf ha, hc], hr⟩
        ·simp [AV.isUnd]
  | _ => simp [AV.isUnd]
theorem items_run (h : Rel N C0 w0 σ a w C m tk own) : ∀ (rs : List ResultVar), noUnd (outs P σ rs) →
  ∃ vs : List Value, (rs.mapM (item a.tmps)).run P w = .ok vs w ∧ vs.length = rs.length ∧ ∀ (j : Nat) (c : AV), (outs P σ rs)[j]? = some c → Rep0 C w (vs[j]?.getD undef) c
 | [], _ => ⟨[], by simp, rfl, fun j c hj => by simp [outs] at hj⟩
 | r :: rs, hu => by
  obtain ⟨v, e1, e2⟩ := item_run h r hu.1
  obtain ⟨vs, e3, e4, e5⟩ := items_run h rs hu.2
  refine ⟨v :: vs, by simp [List.mapM_cons, e1, e3], by simp [e4], fun j c hj => ?_⟩
  cases j with
  | zero => simp [outs] at hj; subst hj; simpa using e2
  | succ j => simpa using e5 j c (by simpa [outs] using hj)
theorem outs_length (σ : AS) : ∀ rs, (outs P σ rs).length = rs.length
 | [] => rfl
 | _ :: rs => by simp [outs, outs_length σ rs]
theorem results_one {fn : Func} {r : ResultVar} {tmps : Array Value} (hrs : fn.results = #[r]) {v : Value} (he : (item tmps r).run P w = .ok v w) : (results fn tmps).run P w = .ok v w := by
 have : results fn tmps = (do
  let l ← [r].mapM (item tmps)
  pure (if h : l.toArray.size = 1 then l.toArray[0] else .tuple l.toArray)) := by
  unfold results
  rw [hrs]
  have e : (fun (r : ResultVar) => match r with
   | .tmp t => (pure (tmps.getD t undef) : Sem Value)
   | .cell x t => do loadVar t (← asAddr (tmps.getD x undef))) = item tmps := by
   funext r
   cases r <;> rfl
  have e2 : (#[r] : Array ResultVar) = [r].toArray := rfl
  rw [e2]
  simp only [List.mapM_toArray]
  simp only [map_eq_pure_bind, bind_assoc, pure_bind]
  congr 1
 rw [this]
 simp [he]
theorem results_run (h : Rel N C0 w0 σ a w C m tk own) {fn : Func} {rs : List ResultVar} (hrs : fn.results = rs.toArray) (hu : noUnd (outs P σ rs)) :
  ∃ v, (results fn a.tmps).run P w = .ok v w ∧ Rep0 C w v (tup1 (outs P σ rs)) := by
 obtain ⟨vs, e1, e2, e3⟩ := items_run h rs hu
 have hl := outs_length (P := P) σ rs
 have hrun : (results fn a.tmps).run P w = .ok (if h : vs.toArray.size = 1 then vs.toArray[0] else .tuple vs.toArray) w := by
  have : results fn a.tmps = (do
   let l ← rs.mapM (item a.tmps)
   pure (if h : l.toArray.size = 1 then l.toArray[0] else .tuple l.toArray)) := by
   unfold results
   rw [hrs]
   have e : (fun (r : ResultVar) => match r with
    | .tmp t => (pure (a.tmps.getD t undef) : Sem Value)
    | .cell x t => do loadVar t (← asAddr (a.tmps.getD x undef))) = item a.tmps := by
    funext r
    cases r <;> rfl
   simp only [List.mapM_toArray]
   simp only [map_eq_pure_bind, bind_assoc, pure_bind]
   congr 1
  rw [this]
  simp [e1]
 refine ⟨_, hrun, ?_⟩
 match vs, outs P σ rs, hl, e2, e3 with
 | [v], [c], _, _, e3 => simpa [tup1] using e3 0 c rfl
 | [], [], _, _, e3 => exact .tup _ _ rfl fun j c hj => by simp at hj
 | v :: u :: vs, c :: d :: cs, h1, h2, e3 =>
  simp only [tup1, List.size_toArray, List.length_cons, Nat.add_eq_right]
  rw [dif_neg (by omega)]
  refine .tup _ _ (by simp only [List.size_toArray, List.length_cons] at h1 h2 ⊢; omega) fun j c hj => ?_
  simpa using e3 j c hj
 | [], _ :: _, h1, h2, _ => simp at h1 h2; omega
 | [_], [], h1, h2, _ => simp at h1 h2; omega
 | [_], _ :: _ :: _, h1, h2, _ => simp at h1 h2; omega
 | _ :: _ :: _, [], h1, h2, _ => simp at h1 h2; omega
 | _ :: _ :: _, [_], h1, h2, _ => simp at h1 h2; omega
def rsOK : List ResultVar → List ResultVar → Bool
 | [], [] => true
 | .tmp t :: r, .tmp u :: s => t == u && rsOK r s
 | .cell t ty :: r, .cell u ty' :: s => t == u && ty == ty' && rsOK r s
 | _, _ => false
theorem rsOK_spec : ∀ (r s : List ResultVar), rsOK r s = true → r = s
 | [], [], _ => rfl
 | .tmp t :: r, .tmp u :: s, h => by
  simp only [rsOK, Bool.and_eq_true, beq_iff_eq] at h
  rw [h.1, rsOK_spec r s h.2]
 | .cell t ty :: r, .cell u ty' :: s, h => by
  simp only [rsOK, Bool.and_eq_true, beq_iff_eq] at h
  rw [h.1.1, h.1.2, rsOK_spec r s h.2]
 | [], _ :: _, h => by simp [rsOK] at h
 | .tmp _ :: _, [], h => by simp [rsOK] at h
 | .cell _ _ :: _, [], h => by simp [rsOK] at h
 | .tmp _ :: _, .cell _ _ :: _, h => by simp [rsOK] at h
 | .cell _ _ :: _, .tmp _ :: _, h => by simp [rsOK] at h
def fmatch (P : Program) (fn : Func) (nargs : Nat) (rs : List ResultVar) (vc : VC) : Bool :=
 (match fn.body with
  | some c => cmatch P fn.ntmps c vc
  | none => false) && decide (nargs ≤ fn.ntmps) && rsOK fn.results.toList rs && !(fn.name == "runtime.NumGoroutine")
theorem leaves_marks {P : Program} {n : Nat} {X : List (Array Value × List (Nat × AV))} {KK : List (Nat × Obj)} {L : Option (Nat × (Option Ex → Obj))} {C0 : Nat → Nat → Prop} {w0 : World} {fn : Func} {tmps : Array Value} {Rr : Ending → World → Prop} {σ : AS} {C : Nat → Nat → Prop} {m : Nat → Option Nat} {tk : Nat → Option TK} {own : Nat → Option (Nat ⊕ Nat)}
  (hfin : ∀ w, Rel ⟨n, X, KK, L⟩ C0 w0 σ ⟨tmps, []⟩ w C m tk own → ∃ v, (results fn tmps).run P w = .ok v w ∧ Rr (.returned v) w) :
  ∀ (ds : List Deferred) (w : World), Rel ⟨n, X, KK, L⟩ C0 w0 σ ⟨tmps, ds⟩ w C m tk own → (∀ q ∈ KK, q.1 ∉ ds.map fun d => (dk d).1) → (∀ l f, L = some (l, f) → l ∉ ds.map fun d => (dk d).1) →
   LeavesInM (Fr none) 0 P fn tmps Rr ds .returning w
 | [], w, h, _, _ => hfin w h
 | d :: ds, w, h, hk, hl => by
  refine ⟨by simp, .inl ?_⟩
  obtain ⟨D, rfl, hD⟩ := h.nc.d d (by simp)
  refine ⟨D, w.putObj D (.deferred none), rfl, run_takeDeferred hD.2.1, ?_⟩
  have hnd := h.nc.nd
  simp only [List.map_cons, List.nodup_cons] at hnd
  have hne : ∀ q ∈ KK, q.1 ≠ D := fun q hq e => hk q hq (by simp [dk, e])
  have hne2 : ∀ l f, L = some (l, f) → l ≠ D := fun l f e1 e => hl l f e1 (by simp [dk, e])
  refine leaves_marks hfin ds _ ?_ (fun q hq hm => hk q hq (by simp at hm ⊢; exact .inr hm)) (fun l f e hm => hl l f e (by simp at hm ⊢; exact .inr hm))
  have h1 : Rel ⟨n, X, KK, none⟩ C0 w0 σ ⟨tmps, ds⟩ w C m tk own :=
   {gf := h.gf, below := h.below, c0 := h.c0, cnew := h.cnew, cval := h.cval, nc := ⟨h.nc.k, (fun _ _ e => by cases e), fun d hd => h.nc.d d (by simp [hd]), hnd.2, (fun d hd => ⟨(h.nc.dis d (by simp [hd])).1, fun _ _ e => by cases e⟩), h.nc.m⟩, ext := h.ext, size := h.size, slots := h.slots, boxes := h.boxes, mdom := h.mdom, toks := h.toks, tdom := h.tdom, owned := h.owned, owns := h.owns }
  have h2 := h1.putNC (o' := .deferred none) hD hne (fun d hd e => hnd.1 (List.mem_map.2 ⟨d, hd, e⟩)) rfl
  exact { gf := h2.gf, below := h2.below, c0 := h2.c0, cnew := h2.cnew, cval := h2.cval, nc := ⟨h2.nc.k, fun l f e => by
   have := h.nc.l l f e
   exact ⟨this.1, by rw [World.putObj_heap_other (hne2 l f e)]; exact this.2.1, this.2.2⟩, h2.nc.d, h2.nc.nd, (fun d hd => h.nc.dis d (by simp [hd])), h2.nc.m⟩, ext := h2.ext, size := h2.size, slots := h2.slots, boxes := h2.boxes, mdom := h2.mdom, toks := h2.toks, tdom := h2.tdom, owned := h2.owned, owns := h2.owns }
theorem ctr_of_wp (hmix : P.follows .mixedOrders = true) {f : FuncId} {fn : Func} {args : List AV} {n : Nat} {rs : List ResultVar} {vc : VC} {res : AV}
  (hf : P.funcs[f]? = some fn) (hm : fmatch P fn n rs vc = true) (hn : args.length = n) (h : WP { P := P } vc (Fin P rs res) (start args)) : Ctr P f args res := by
 simp only [fmatch, Bool.and_eq_true, decide_eq_true_eq, beq_iff_eq] at hm
 obtain ⟨⟨⟨h1, h2⟩, h3⟩, h4⟩ := hm
 cases hb : fn.body with
 | none => simp [hb] at h1
 | some c =>
  simp only [hb] at h1
  refine ⟨by simp only [callable, hf, hb, h4]; rfl, fun C w vs hC hargs => callsIn_fr.1 (callsIn_of_wp_marks (F := Fr none) (n := 0) hf hb trivial ?_ rfl)⟩
  obtain ⟨ha1, ha2⟩ := hargs
  have hrel : Rel ⟨fn.ntmps, [], [], none⟩ C w (start args) { tmps := vs ++ Array.replicate (fn.ntmps - vs.size) undef, defers := [] } w C (fun _ => none) (fun _ => none) (fun _ => none) := by
   refine { gf := hC.2, below := .refl _ _, c0 := fun _ _ x => x, cnew := fun _ _ x => .inl x, cval := hC.1, nc := ⟨(fun q hq => by simp at hq), (fun _ _ e => by cases e), (fun d hd => by simp at hd), by simp, (fun d hd => by simp at hd), fun _ _ _ e => by cases e⟩, ext := fun p hp => by simp at hp, size := by simp; omega, slots := fun t => ?_, boxes := fun b bx hb => by simp [start, getB] at hb,
            mdom := fun b blk hb => by simp at hb, toks := fun k n hk => by simp [start, getT] at hk, tdom := fun k T hk => by simp at hk, owned := fun b x hx => by simp at hx, owns := fun b x hx => by simp at hx }
   simp only [start, get_args0, Nat.zero_le, if_true, Nat.sub_zero]
   cases hj : args[t]? with
   | none => trivial
   | some c =>
    have hlt : t < vs.size := by rw [ha1]; exact (List.getElem?_eq_some_iff.1 hj).1
    have := ha2 t c hj
    simp only [Option.getD_some]
    rw [Array.getElem?_append_left hlt]
    exact this.toRep
  refine wpIn_mono (wp_sound (E := { P := P }) hmix c vc false none [] fn.ntmps [] [] none none 0 _ (start args) _ w rfl ⟨fun _ => rfl, fun _ _ e => by cases e⟩ (fun _ => rfl) h1 h ⟨C, _, _, _, hrel⟩) fun e a' w' hq => ?_
  obtain ⟨e', σ, he, hq, C1, m, tk, own, hr⟩ := hq
  obtain ⟨C', own', hr', hCC⟩ := hr.frzL (outIds σ rs)
  have fin : noUnd (outs P (frzS (outIds σ rs) σ) rs) ∧ tup1 (outs P (frzS (outIds σ rs) σ) rs) = res →
    LeavesInM (Fr none) 0 P fn a'.tmps (fun e w' => ∃ v' C', e = .returned v' ∧ Below w.heap.size w w' ∧ CVal C' w' ∧ (∀ b o, C b o → C' b o) ∧ (∀ b o, C' b o → C b o ∨ w.heap.size ≤ b) ∧ Rep0 C' w' v' res) a'.defers .returning w' := by
   rintro ⟨hu, rfl⟩
   refine leaves_marks (fun w2 hr2 => ?_) a'.defers w' hr' (fun q hq => by simp at hq) (fun _ _ e => by cases e)
   obtain ⟨v, e1, e2⟩ := results_run hr2 (fn := fn) (rs := rs) (by rw [← rsOK_spec _ _ h3]) hu
   exact ⟨v, e1, v, C', rfl, hr2.below, hr2.cval, hr2.c0, hr2.cnew, e2⟩
  cases e <;> cases e' <;> first | exact he.elim | skip
  ·exact fin hq
  ·exact hq.elim
  ·exact fin hq
def outW (P : Program) (σ : AS) (t : Nat) (ty : TypeId) : Option AV :=
 match get σ.fr t with
 | .ptr b 0 => match getB σ.hp b with
  | some bx => match aggOf P ty with
   | some true => if szOf P ty = some bx.cells.length then some (.aggw (bx.cells.map AV.shr)) else none
   | some false => match bx.cells with
    | [x] => some x
    | _ => none
   | none => none
  | none => none
 | _ => none
theorem outW_run (h : Rel N C0 w0 σ a w C m tk own) {t : Nat} {ty : TypeId} {r : AV} (ho : outW P σ t ty = some r) :
  ∃ v, (item a.tmps (.cell t ty)).run P w = .ok v w ∧ Rep C w m tk v r := by
 have hs := h.slots t
 unfold outW at ho
 revert ho
 generalize get σ.fr t = av at hs ⊢
 cases av with
 | ptr b off =>
  cases off with
  | succ o => simp
  | zero =>
   simp only
   obtain ⟨blk, hm1, hv⟩ := hs
   cases hg : getB σ.hp b with
   | none => simp
   | some bx =>
    simp only
    cases ha : aggOf P ty with
    | none => simp
    | some g =>
     cases g with
     | true =>
      simp only
      by_cases hs : szOf P ty = some bx.cells.length
      ·rw [if_pos hs]
       intro ho
       injection ho with ho
       subst ho
       have hcell : ∀ j, j < bx.cells.length → w.cell? ((⟨blk, 0, none⟩ : Addr).add j) = some ((w.cell? ⟨blk, j, none⟩).getD undef) := by
        intro j hj
        obtain ⟨_, v, hv, _⟩ := box_cell h hg hm1 (j := j) (av := bx.cells[j]) (by simp [hj])
        rw [add_none, Nat.zero_add, hv]
        rfl
       have hl := run_loadCells (P := P) w ⟨blk, 0, none⟩ bx.cells.length (fun j => (w.cell? ⟨blk, j, none⟩).getD undef) hcell
       refine ⟨_, by simp [item, hv, asAddr, loadVar, run_aggOf ha, run_szOf hs, hl]; rfl, ?_⟩
       refine ⟨_, rfl, by simp, fun j c hj => ?_⟩
       rw [List.getElem?_map] at hj
       obtain ⟨c0, hj0, rfl⟩ := Option.map_eq_some_iff.1 hj
       have hlt := (List.getElem?_eq_some_iff.1 hj0).1
       obtain ⟨d1, v, d2, d3, d4⟩ := box_cell h hg hm1 hj0
       have e : (((List.range bx.cells.length).map fun j => (w.cell? ⟨blk, j, none⟩).getD undef).toArray)[j]?.getD undef = v := by simp [hlt, d2]
       rw [e]
       exact ⟨shr_isCell d1, d3, rep_shr d4 d1 d3⟩
      ·rw [if_neg hs]
       simp
     | false =>
      simp only
      split
      ·rename_i x hx
       intro ho
       injection ho with ho
       subst ho
       obtain ⟨d1, v, d2, d3, d4⟩ := box_cell h hg hm1 (j := 0) (av := x) (by rw [hx]; rfl)
       exact ⟨v, by simp [item, hv, asAddr, loadVar, run_aggOf ha, d2], d4⟩
      ·simp
 | _ => simp
def FinI (P : Program) (rs : List ResultVar) (Q : AV → HpL → TkL → Option Ex → Prop) : Ex → AS → Prop
 | .exit _, _ => False
 | _, σ => match rs with
  | [.tmp t] => Q (get σ.fr t) σ.hp σ.tk σ.pd
  | [.cell t ty] => match outW P σ t ty with
   | some r => Q r σ.hp σ.tk σ.pd
   | none => False
  | [.tmp t, .tmp s] => (noUnd (outs P (frzS (outIds σ [.tmp t, .tmp s]) σ) [.tmp t, .tmp s]) ∧ Q (tup1 (outs P (frzS (outIds σ [.tmp t, .tmp s]) σ) [.tmp t, .tmp s])) (frzS (outIds σ [.tmp t, .tmp s]) σ).hp σ.tk σ.pd) ∨
   ((get σ.fr t).okp = true ∧ (get σ.fr s).okp = true ∧ Q (.tupw [get σ.fr t, get σ.fr s]) σ.hp σ.tk σ.pd)
  | rs => noUnd (outs P (frzS (outIds σ rs) σ) rs) ∧ Q (tup1 (outs P (frzS (outIds σ rs) σ) rs)) (frzS (outIds σ rs) σ).hp σ.tk σ.pd
theorem csem_of_wp {E : Env} (hmix : E.P.follows .mixedOrders = true) {f : FuncId} {fn : Func} {args : List AV} {n : Nat} {rs : List ResultVar} {vc : VC} {hp : HpL} {tk : TkL} {pd : Option Ex} {Q : AV → HpL → TkL → Option Ex → Prop}
  (hf : E.P.funcs[f]? = some fn) (hm : fmatch E.P fn n rs vc = true) (hn : args.length = n) (hrd : E.rd = false) (h : WP E vc (FinI E.P rs Q) ⟨args0 0 args, hp, tk, pd⟩) : CSem E f args hp tk pd Q := by
 simp only [fmatch, Bool.and_eq_true, decide_eq_true_eq, beq_iff_eq] at hm
 obtain ⟨⟨⟨h1, h2⟩, h3⟩, h4⟩ := hm
 cases hb : fn.body with
 | none => simp [hb] at h1
 | some c =>
  simp only [hb] at h1
  refine ⟨by simp only [callable, hf, hb, h4]; rfl, fun C0 w0 X K L w vs hX hY hsz hR => callsIn_fr.1 (callsIn_of_wp_marks (F := Fr none) (n := 0) hf hb trivial ?_ rfl)⟩
  obtain ⟨C, m, tkc, own, hrel0⟩ := hR
  have hrel : Rel ⟨fn.ntmps, X, K, L⟩ C0 w0 ⟨args0 0 args, hp, tk, pd⟩ { tmps := vs ++ Array.replicate (fn.ntmps - vs.size) undef, defers := [] } w C m tkc own := by
   refine hrel0.pop (fun t => ?_) (fun p hp => by simp [hp]) (fun q hq => hq) (fun d hd => by simp at hd) (by simp) (fun d hd => by simp at hd) (by simp; omega)
   have hx := hrel0.ext (vs, args0 0 args) (by simp) t
   rcases Nat.lt_or_ge t vs.size with hl | hl
   ·rw [Array.getElem?_append_left hl]; exact hx
   ·rw [get_args, List.getElem?_eq_none (by omega)]
    exact trivial
  obtain ⟨EP, EX, ET, Erd⟩ := E
  simp only at hrd hf h1 h hY hX ⊢
  subst hrd
  refine wpIn_mono (wp_sound (E := ⟨EP, EX, ET, false⟩) hmix c vc false ET EX fn.ntmps X K L none 0 _ _ _ w hX hY (fun _ => rfl) h1 h ⟨C, _, _, _, hrel⟩) fun e a' w' hq => ?_
  obtain ⟨e', σ, he, hq, C1, m1, tk1, own1, hr⟩ := hq
  have hwn : ∀ {σ' : AS} {w2 : World} {C2 : Nat → Nat → Prop} {m2 : Nat → Option Nat} {tk2 : Nat → Option TK} {own2 : Nat → Option (Nat ⊕ Nat)} (hr2 : Rel ⟨fn.ntmps, X, K, L⟩ C0 w0 σ' ⟨a'.tmps, []⟩ w2 C2 m2 tk2 own2) {v : Value} {r : AV}, Rep C2 w2 m2 tk2 v r →
    R ⟨0, (#[v], [(0, r)]) :: X, K, L⟩ C0 w0 ⟨[], σ'.hp, σ'.tk, σ'.pd⟩ a0 w2 := by
   intro σ' w2 C2 m2 tk2 own2 hr2 v r hv
   have h5 := hr2.push.pop (X := X) (KK := K) (tmps := #[]) (fr := []) (ds := []) (fun t => trivial) (fun p hp => by simp [hp]) (fun q hq => by simpa using hq) (fun d hd => by simp at hd) (by simp) (fun d hd => by simp at hd) rfl
   refine ⟨C2, m2, tk2, own2, h5.addX (fun t => ?_)⟩
   cases t with
   | zero => simpa [get] using hv
   | succ t => simp only [get]; rw [if_neg (by omega)]; exact trivial
  have lv : ∀ {σ' : AS} {w2 : World} {C2 : Nat → Nat → Prop} {m2 : Nat → Option Nat} {tk2 : Nat → Option TK} {own2 : Nat → Option (Nat ⊕ Nat)} (hr2 : Rel ⟨fn.ntmps, X, K, L⟩ C0 w0 σ' a' w2 C2 m2 tk2 own2) {r : AV}, Q r σ'.hp σ'.tk σ'.pd →
    (∀ w3, Rel ⟨fn.ntmps, X, K, L⟩ C0 w0 σ' ⟨a'.tmps, []⟩ w3 C2 m2 tk2 own2 → ∃ v, (results fn a'.tmps).run EP w3 = .ok v w3 ∧ Rep C2 w3 m2 tk2 v r) →
    LeavesInM (Fr none) 0 EP fn a'.tmps (fun e w' => ∃ v r hp' tk' pd', e = .returned v ∧ Q r hp' tk' pd' ∧ R ⟨0, (#[v], [(0, r)]) :: X, K, L⟩ C0 w0 ⟨[], hp', tk', pd'⟩ a0 w') a'.defers .returning w2 := by
   intro σ' w2 C2 m2 tk2 own2 hr2 r hq hres
   refine leaves_marks (fun w3 hr3 => ?_) a'.defers w2 hr2 (fun q hq hm => ?_) (fun l f e hm => ?_)
   ·obtain ⟨v, e1, e2⟩ := hres w3 hr3
    exact ⟨v, e1, v, r, _, _, _, rfl, hq, hwn hr3 e2⟩
   ·obtain ⟨d, hd, e⟩ := List.mem_map.1 hm
    exact (hr2.nc.dis d hd).1 q hq e.symm
   ·obtain ⟨d, hd, e'⟩ := List.mem_map.1 hm
    exact (hr2.nc.dis d hd).2 l f e e'.symm
  have gen : noUnd (outs EP (frzS (outIds σ rs) σ) rs) ∧ Q (tup1 (outs EP (frzS (outIds σ rs) σ) rs)) (frzS (outIds σ rs) σ).hp σ.tk σ.pd → LeavesInM (Fr none) 0 EP fn a'.tmps (fun e w' => ∃ v r hp' tk' pd', e = .returned v ∧ Q r hp' tk' pd' ∧ R ⟨0, (#[v], [(0, r)]) :: X, K, L⟩ C0 w0 ⟨[], hp', tk', pd'⟩ a0 w') a'.defers .returning w' := by
   rintro ⟨hu, hq⟩
   obtain ⟨C', own', hr', hCC⟩ := hr.frzL (outIds σ rs)
   refine lv hr' hq fun w3 hr3 => ?_
   obtain ⟨v, e1, e2⟩ := results_run hr3 (fn := fn) (rs := rs) (by rw [← rsOK_spec _ _ h3]) hu
   exact ⟨v, e1, e2.toRep⟩
  have one : ∀ {t : Nat}, rs = [.tmp t] → Q (get σ.fr t) σ.hp σ.tk σ.pd → LeavesInM (Fr none) 0 EP fn a'.tmps (fun e w' => ∃ v r hp' tk' pd', e = .returned v ∧ Q r hp' tk' pd' ∧ R ⟨0, (#[v], [(0, r)]) :: X, K, L⟩ C0 w0 ⟨[], hp', tk', pd'⟩ a0 w') a'.defers .returning w' := by
   intro t hrs hq
   refine lv hr hq fun w3 hr3 => ⟨a'.tmps[t]?.getD undef, ?_, hr3.slots t⟩
   have hl := rsOK_spec _ _ h3
   rw [hrs] at hl
   have hl' : fn.results = #[.tmp t] := by rw [← Array.toArray_toList (xs := fn.results), hl]
   simp [results, hl']
  have oneC : ∀ {t : Nat} {ty : TypeId} {r : AV}, rs = [.cell t ty] → outW EP σ t ty = some r → Q r σ.hp σ.tk σ.pd → LeavesInM (Fr none) 0 EP fn a'.tmps (fun e w' => ∃ v r hp' tk' pd', e = .returned v ∧ Q r hp' tk' pd' ∧ R ⟨0, (#[v], [(0, r)]) :: X, K, L⟩ C0 w0 ⟨[], hp', tk', pd'⟩ a0 w') a'.defers .returning w' := by
   intro t ty r hrs ho hq
   refine lv hr hq fun w3 hr3 => ?_
   obtain ⟨v, e1, e2⟩ := outW_run hr3 ho
   refine ⟨v, ?_, e2⟩
   have hl := rsOK_spec _ _ h3
   rw [hrs] at hl
   have hl' : fn.results = #[.cell t ty] := by rw [← Array.toArray_toList (xs := fn.results), hl]
   exact results_one hl' e1
  have two : ∀ {t s : Nat}, rs = [.tmp t, .tmp s] → (get σ.fr t).okp = true → (get σ.fr s).okp = true → Q (.tupw [get σ.fr t, get σ.fr s]) σ.hp σ.tk σ.pd → LeavesInM (Fr none) 0 EP fn a'.tmps (fun e w' => ∃ v r hp' tk' pd', e = .returned v ∧ Q r hp' tk' pd' ∧ R ⟨0, (#[v], [(0, r)]) :: X, K, L⟩ C0 w0 ⟨[], hp', tk', pd'⟩ a0 w') a'.defers .returning w' := by
   intro t s hrs h1 h2 hq
   have h1r : ∀ {v : Value} {av : AV} {w3 : World}, av.okp = true → Rep C1 w3 m1 tk1 v av → RepT C1 w3 m1 tk1 v av := by
    intro v av w3 hk hr
    cases av with
    | sl sz es md => cases md <;> first | (simp [AV.okp] at hk; done) | exact hr
    | _ => first | (simp [AV.okp] at hk; done) | exact hr
   refine lv hr hq fun w3 hr3 => ⟨.tuple #[a'.tmps[t]?.getD undef, a'.tmps[s]?.getD undef], ?_, #[a'.tmps[t]?.getD undef, a'.tmps[s]?.getD undef], rfl, rfl, fun j c hj => ?_⟩
   ·have hl := rsOK_spec _ _ h3
    rw [hrs] at hl
    have hl' : fn.results = #[.tmp t, .tmp s] := by rw [← Array.toArray_toList (xs := fn.results), hl]
    simp [results, hl']
   ·match j with
    | 0 => simp at hj; subst hj; exact h1r h1 (hr3.slots t)
    | 1 => simp at hj; subst hj; exact h1r h2 (hr3.slots s)
    | j + 2 => simp at hj
  have fin : FinI EP rs Q .norm σ → LeavesInM (Fr none) 0 EP fn a'.tmps (fun e w' => ∃ v r hp' tk' pd', e = .returned v ∧ Q r hp' tk' pd' ∧ R ⟨0, (#[v], [(0, r)]) :: X, K, L⟩ C0 w0 ⟨[], hp', tk', pd'⟩ a0 w') a'.defers .returning w' := by
   intro hf
   simp only [FinI] at hf
   split at hf
   ·rename_i t
    exact one rfl hf
   ·split at hf
    ·rename_i ho
     exact oneC rfl ho hf
    ·exact hf.elim
   ·rcases hf with hf | ⟨g1, g2, g3⟩
    ·exact gen hf
    ·exact two rfl g1 g2 g3
   ·exact gen hf
  cases e <;> cases e' <;> first | exact he.elim | skip
  ·exact fin hq
  ·exact hq.elim
  ·exact fin hq
end
end Go.V

set_option linter.unusedSimpArgs false
set_option linter.unusedVariables false
set_option linter.unnecessarySimpa false
namespace Go.V
open Go Go.RowKit
section
variable {P : Env} {Q : Ex → AS → Prop} {σ : AS} {K next : AS → Prop} {d : Option Nat}
def WCond (P : Env) (v : AV) (a b : VC) (Q : Ex → AS → Prop) (σ : AS) : Prop :=
 match v with
 | .bool true => WP P a Q σ
 | .bool false => WP P b Q σ
 | _ => False
theorem wcond_true {a b : VC} : WCond P (.bool true) a b Q σ = WP P a Q σ := rfl
theorem wcond_false {a b : VC} : WCond P (.bool false) a b Q σ = WP P b Q σ := rfl
theorem wcond_dec {c : Prop} [Decidable c] {a b : VC} (h1 : c → WP P a Q σ) (h2 : ¬ c → WP P b Q σ) : WCond P (.bool (decide c)) a b Q σ := by
 by_cases h : c
 ·simp only [h, decide_true]; exact h1 h
 ·simp only [h, decide_false]; exact h2 h
theorem wcond_bool {c : Bool} {a b : VC} (h1 : c = true → WP P a Q σ) (h2 : c = false → WP P b Q σ) : WCond P (.bool c) a b Q σ := by
 cases c
 ·exact h2 rfl
 ·exact h1 rfl
theorem wp_skip' : WP P .skip Q σ = Q .norm σ := rfl
theorem wp_ret' : WP P .ret Q σ = Q .ret σ := rfl
theorem wp_exit' {i : Nat} : WP P (.exit i) Q σ = Q (.exit i) σ := rfl
theorem wp_ops' {dr : Bool} {l : List VOper} {ks : Option (List Nat)} : WP P (.ops dr l ks) Q σ = WOps P dr l (Kp ks (Q .norm)) σ := rfl
theorem wp_seq' {a b : VC} : WP P (.seq a b) Q σ = WP P a (Then (WP P b Q) Q) σ := rfl
theorem wp_cond' {x : VO} {a b : VC} : WP P (.cond x a b) Q σ = WCond P (ev σ x) a b Q σ := rfl
theorem wp_block' {i : Nat} {c : VC} : WP P (.block i c) Q σ = WP P c (Blk i Q) σ := rfl
theorem wp_scope' {Pr : Program} {X : List FrL} {T : Option (Nat × YT)} {c : VC} : WP ⟨Pr, X, T, false⟩ (.scope c) Q σ = WP ⟨Pr, X, T, false⟩ c Q σ := by
 show (false = false ∧ _) = _
 simp only [true_and]
 rfl
theorem then_norm {n : AS → Prop} : Then n Q .norm σ = n σ := rfl
theorem then_exit {n : AS → Prop} {i : Nat} : Then n Q (.exit i) σ = Q (.exit i) σ := rfl
theorem then_ret {n : AS → Prop} : Then n Q .ret σ = Q .ret σ := rfl
theorem blk_norm {i : Nat} : Blk i Q .norm σ = Q .norm σ := rfl
theorem blk_ret {i : Nat} : Blk i Q .ret σ = Q .ret σ := rfl
theorem blk_exit {i j : Nat} : Blk i Q (.exit j) σ = if j = i then Q .norm σ else Q (.exit j) σ := by
 simp only [Blk]
 by_cases h : j = i <;> simp [h]
theorem lp_exit {ι : Type} {X : List FrL} {st : ι → AS} {I : ι → Prop} {μ : ι → Nat} {x : ι} {i : Nat} : Lp X st I μ x Q (.exit i) σ = Q (.exit i) σ := rfl
theorem lp_ret {ι : Type} {X : List FrL} {st : ι → AS} {I : ι → Prop} {μ : ι → Nat} {x : ι} : Lp X st I μ x Q .ret σ = Q .ret σ := rfl
theorem kp_some {l : List Nat} {fr : List (Nat × AV)} {hp : List (Nat × BX)} {tk : List (Nat × Nat)} {pd : Option Ex} : Kp (some l) K ⟨fr, hp, tk, pd⟩ = K ⟨keepL fr l, hp, tk, pd⟩ := rfl
theorem keepL_nil {fr : List (Nat × AV)} : keepL fr [] = [] := rfl
theorem keepL_cons {fr : List (Nat × AV)} {t : Nat} {r : List Nat} : keepL fr (t :: r) = (t, get fr t) :: keepL fr r := rfl
theorem get_cons {s t : Nat} {v : AV} {r : List (Nat × AV)} : get ((s, v) :: r) t = if s = t then v else get r t := rfl
theorem get_nil {t : Nat} : get [] t = .und := rfl
theorem getB_cons {s t : Nat} {v : BX} {r : List (Nat × BX)} : getB ((s, v) :: r) t = if s = t then some v else getB r t := rfl
theorem getB_nil {t : Nat} : getB [] t = none := rfl
theorem getT_cons {s t : Nat} {v : Nat} {r : List (Nat × Nat)} : getT ((s, v) :: r) t = if s = t then some v else getT r t := rfl
theorem getT_nil {t : Nat} : getT [] t = none := rfl
theorem put_some {d : Nat} {v : AV} {fr : List (Nat × AV)} {hp : List (Nat × BX)} {tk : List (Nat × Nat)} {pd : Option Ex} : put (some d) v ⟨fr, hp, tk, pd⟩ = ⟨(d, v) :: fr, hp, tk, pd⟩ := rfl
theorem put_none {v : AV} : put none v σ = σ := rfl
theorem ev_t {n : Nat} {fr : List (Nat × AV)} {hp : List (Nat × BX)} {tk : List (Nat × Nat)} {pd : Option Ex} : ev ⟨fr, hp, tk, pd⟩ (.t n) = get fr n := rfl
theorem ev_k {v : AV} : ev σ (.k v) = v := rfl
theorem wops_nil {dr : Bool} : WOps P dr [] K σ = K σ := rfl
theorem wops_cons {dr : Bool} {d : Option Nat} {op : VOp} {r : List VOper} : WOps P dr (⟨d, op, none⟩ :: r) K σ = WD P dr d op (WOps P dr r K) σ := rfl
theorem wops_consg {dr : Bool} {d : Option Nat} {op : VOp} {r : List VOper} {t : Nat} {want : Bool} : WOps P dr (⟨d, op, some (t, want)⟩ :: r) K σ = WGd P dr (get σ.fr t) want d op (WOps P dr r K) σ := rfl
theorem wgd_tt {dr : Bool} {op : VOp} : WGd P dr (.bool true) true d op next σ = WD P dr d op next σ := rfl
theorem wgd_ff {dr : Bool} {op : VOp} : WGd P dr (.bool false) false d op next σ = WD P dr d op next σ := rfl
theorem wgd_tf {dr : Bool} {op : VOp} : WGd P dr (.bool true) false d op next σ = next (put d .nul σ) := rfl
theorem wgd_ft {dr : Bool} {op : VOp} : WGd P dr (.bool false) true d op next σ = next (put d .nul σ) := rfl
theorem wgd_nul {dr w : Bool} {op : VOp} : WGd P dr .nul w d op next σ = next (put d .nul σ) := rfl
theorem WGd_bool {dr w b : Bool} {op : VOp} (h1 : b = w → WD P dr d op next σ) (h2 : b = (!w) → next (put d .nul σ)) : WGd P dr (.bool b) w d op next σ := by
 cases b <;> cases w
 ·exact h1 rfl
 ·exact h2 rfl
 ·exact h2 rfl
 ·exact h1 rfl
theorem wd_false {op : VOp} : WD P false d op next σ = W1 P d op next σ := rfl
theorem wd_true {op : VOp} : WD P true d op next σ = (dcond op σ ∧ W1 P d op next σ) := rfl
theorem w1_mov {x : VO} : W1 P d (.mov x) next σ = next (put d (ev σ x) σ) := by simp [W1, vcond, vval, vnext]
theorem w1_nils {k sz : Nat} {fr : List (Nat × AV)} {hp : List (Nat × BX)} {tk : List (Nat × Nat)} {pd : Option Ex} :
  W1 P d (.nils k sz) next ⟨fr, hp, tk, pd⟩ = (getT tk k = none ∧ next (put d (.sl sz [] (.own k)) ⟨fr, hp, (k, 0) :: tk, pd⟩)) := rfl
theorem w1_alloc {b : Nat} {z : List AV} {fr : List (Nat × AV)} {hp : List (Nat × BX)} {tk : List (Nat × Nat)} {pd : Option Ex} :
  W1 P d (.alloc b z) next ⟨fr, hp, tk, pd⟩ = (getB hp b = none ∧ next (put d (.ptr b 0) ⟨fr, (b, ⟨z, false⟩) :: hp, tk, pd⟩)) := rfl
theorem w1_box {b n : Nat} {x : VO} {fr : List (Nat × AV)} {hp : List (Nat × BX)} {tk : List (Nat × Nat)} {pd : Option Ex} :
  W1 P d (.box b n x) next ⟨fr, hp, tk, pd⟩ = ((getB hp b = none ∧ (ev ⟨fr, hp, tk, pd⟩ x).okv = true ∧ (ev ⟨fr, hp, tk, pd⟩ x).cells.length = n) ∧ next (put d (.ptr b 0) ⟨fr, (b, ⟨(ev ⟨fr, hp, tk, pd⟩ x).cells, false⟩) :: hp, tk, pd⟩)) := rfl
def WBin (k : BK) (x y : AV) (d : Option Nat) (next : AS → Prop) (σ : AS) : Prop := k.cond x y ∧ next (put d (k.val x y) σ)
theorem w1_bin {k : BK} {x y : VO} : W1 P d (.bin k x y) next σ = WBin k (ev σ x) (ev σ y) d next σ := rfl
section
variable {a b : Int} {p q : Bool}
theorem wbin_add : WBin .add (.int a) (.int b) d next σ = next (put d (.int (w64 (a + b))) σ) := by simp [WBin, BK.cond, BK.val]
theorem wbin_sub : WBin .sub (.int a) (.int b) d next σ = next (put d (.int (w64 (a - b))) σ) := by simp [WBin, BK.cond, BK.val]
theorem wbin_mul : WBin .mul (.int a) (.int b) d next σ = next (put d (.int (w64 (a * b))) σ) := by simp [WBin, BK.cond, BK.val]
theorem wbin_quo (h : b ≠ 0) : WBin .quo (.int a) (.int b) d next σ = next (put d (.int (w64 (a.tdiv b))) σ) := by simp [WBin, BK.cond, BK.val, h]
theorem wbin_rem (h : b ≠ 0) : WBin .rem (.int a) (.int b) d next σ = next (put d (.int (a.tmod b)) σ) := by simp [WBin, BK.cond, BK.val, h]
theorem wbin_lss : WBin .lss (.int a) (.int b) d next σ = next (put d (.bool (decide (a < b))) σ) := by simp [WBin, BK.cond, BK.val]
theorem wbin_leq : WBin .leq (.int a) (.int b) d next σ = next (put d (.bool (decide (a ≤ b))) σ) := by simp [WBin, BK.cond, BK.val]
theorem wbin_gtr : WBin .gtr (.int a) (.int b) d next σ = next (put d (.bool (decide (b < a))) σ) := by simp [WBin, BK.cond, BK.val]
theorem wbin_geq : WBin .geq (.int a) (.int b) d next σ = next (put d (.bool (decide (b ≤ a))) σ) := by simp [WBin, BK.cond, BK.val]
theorem wbin_eql : WBin .eql (.int a) (.int b) d next σ = next (put d (.bool (decide (a = b))) σ) := by
 have : (a == b) = decide (a = b) := by by_cases h : a = b <;> simp [h]
 simp only [WBin, BK.cond, BK.val, true_and, this]
theorem wbin_neq : WBin .neq (.int a) (.int b) d next σ = next (put d (.bool (decide (¬ a = b))) σ) := by
 have : (a != b) = decide (¬ a = b) := by by_cases h : a = b <;> simp [h]
 simp only [WBin, BK.cond, BK.val, true_and, this]
theorem wbin_beq : WBin .beq (.bool p) (.bool q) d next σ = next (put d (.bool (p == q)) σ) := by simp [WBin, BK.cond, BK.val]
theorem wbin_seq2 {c e : Int} : WBin (.seq 2) (.agg [.int a, .int b]) (.agg [.int c, .int e]) d next σ = next (put d (.bool (decide (a = c ∧ b = e))) σ) := by
 have : sameCells [.int a, .int b] [.int c, .int e] = decide (a = c ∧ b = e) := by
  simp only [sameCells]
  by_cases h : a = c <;> by_cases h' : b = e <;> simp [h, h']
 simp [WBin, BK.cond, BK.val, AV.isInt, this]
theorem wbin_sne2 {c e : Int} : WBin (.sne 2) (.agg [.int a, .int b]) (.agg [.int c, .int e]) d next σ = next (put d (.bool (decide (¬ (a = c ∧ b = e)))) σ) := by
 have : sameCells [.int a, .int b] [.int c, .int e] = decide (a = c ∧ b = e) := by
  simp only [sameCells]
  by_cases h : a = c <;> by_cases h' : b = e <;> simp [h, h']
 have e2 : (!decide (a = c ∧ b = e)) = decide (¬ (a = c ∧ b = e)) := by by_cases h : a = c ∧ b = e <;> simp [h]
 simp only [WBin, BK.cond, BK.val, this, e2]
 simp [AV.isInt]
theorem wbin_shr {u : BitVec 64} (h : 0 ≤ b) : WBin .shr (.un u) (.int b) d next σ = next (put d (.un (u >>> min b.toNat 64)) σ) := by simp [WBin, BK.cond, BK.val, h]
theorem wbin_shl {u : BitVec 64} (h : 0 ≤ b) : WBin .shl (.un u) (.int b) d next σ = next (put d (.un (u <<< min b.toNat 64)) σ) := by simp [WBin, BK.cond, BK.val, h]
theorem wbin_band {u v : BitVec 64} : WBin .band (.un u) (.un v) d next σ = next (put d (.un (u &&& v)) σ) := by simp [WBin, BK.cond, BK.val]
theorem wbin_bor {u v : BitVec 64} : WBin .bor (.un u) (.un v) d next σ = next (put d (.un (u ||| v)) σ) := by simp [WBin, BK.cond, BK.val]
theorem wbin_subu {u v : BitVec 64} : WBin .sub (.un u) (.un v) d next σ = next (put d (.un (u - v)) σ) := by simp [WBin, BK.cond, BK.val]
theorem wbin_neu {u v : BitVec 64} : WBin .neq (.un u) (.un v) d next σ = next (put d (.bool (!decide (u = v))) σ) := by simp [WBin, BK.cond, BK.val]
theorem wbin_equ {u v : BitVec 64} : WBin .eql (.un u) (.un v) d next σ = next (put d (.bool (decide (u = v))) σ) := by simp [WBin, BK.cond, BK.val]
theorem wbin_bne : WBin .bne (.bool p) (.bool q) d next σ = next (put d (.bool (!(p == q))) σ) := by simp [WBin, BK.cond, BK.val]
end
def WNot (x : AV) (d : Option Nat) (next : AS → Prop) (σ : AS) : Prop := x.isBool ∧ next (put d (.bool (!x.toBool)) σ)
theorem w1_not {x : VO} : W1 P d (.not x) next σ = WNot (ev σ x) d next σ := rfl
theorem wnot {p : Bool} : WNot (.bool p) d next σ = next (put d (.bool (!p)) σ) := by simp [WNot, AV.isBool, AV.toBool]
def WNeg (x : AV) (d : Option Nat) (next : AS → Prop) (σ : AS) : Prop := x.isInt ∧ next (put d (.int (w64 (0 - x.toInt))) σ)
theorem w1_neg {x : VO} : W1 P d (.neg x) next σ = WNeg (ev σ x) d next σ := rfl
theorem wneg {a : Int} : WNeg (.int a) d next σ = next (put d (.int (w64 (0 - a))) σ) := by simp [WNeg, AV.isInt, AV.toInt]
def WPick (c x y : AV) (d : Option Nat) (next : AS → Prop) (σ : AS) : Prop := c.isBool ∧ next (put d (if c.toBool then x else y) σ)
theorem w1_pick {c x y : VO} : W1 P d (.pick c x y) next σ = WPick (ev σ c) (ev σ x) (ev σ y) d next σ := rfl
theorem wpick {p : Bool} {x y : AV} : WPick (.bool p) x y d next σ = next (put d (if p then x else y) σ) := by cases p <;> simp [WPick, AV.isBool, AV.toBool]
def WLen (x : AV) (d : Option Nat) (next : AS → Prop) (σ : AS) : Prop :=
 match x with
 | .sl _ es _ => next (put d (.int es.length) σ)
 | .bsl _ _ _ n _ => next (put d (.int n) σ)
 | .gsl _ _ _ _ n _ => next (put d (.int n) σ)
 | _ => False
theorem w1_len {x : VO} : W1 P d (.len x) next σ = WLen (ev σ x) d next σ := by
 simp only [W1, vcond, vval, vnext]
 generalize ev σ x = v
 cases v <;> simp [WLen]
theorem wlen_sl {sz : Nat} {es : List AV} {m : VM} : WLen (.sl sz es m) d next σ = next (put d (.int es.length) σ) := rfl
theorem wlen_bsl {b off sz n : Nat} {ag : Bool} : WLen (.bsl b off sz n ag) d next σ = next (put d (.int n) σ) := rfl
theorem wlen_gsl {b i v sz n : Nat} {ag : Bool} : WLen (.gsl b i v sz n ag) d next σ = next (put d (.int n) σ) := rfl
def WMin (x y : AV) (d : Option Nat) (next : AS → Prop) (σ : AS) : Prop := (x.isInt ∧ y.isInt) ∧ next (put d (.int (if y.toInt < x.toInt then y.toInt else x.toInt)) σ)
theorem w1_min {x y : VO} : W1 P d (.min x y) next σ = WMin (ev σ x) (ev σ y) d next σ := rfl
theorem wmin {a b : Int} : WMin (.int a) (.int b) d next σ = next (put d (.int (min a b)) σ) := by
 have : (if b < a then b else a) = min a b := by omega
 rw [← this]
 simp only [WMin, AV.isInt, AV.toInt, and_self, true_and]
 rfl
def WMax (x y : AV) (d : Option Nat) (next : AS → Prop) (σ : AS) : Prop := (x.isInt ∧ y.isInt) ∧ next (put d (.int (if y.toInt > x.toInt then y.toInt else x.toInt)) σ)
theorem w1_max {x y : VO} : W1 P d (.max x y) next σ = WMax (ev σ x) (ev σ y) d next σ := rfl
theorem wmax {a b : Int} : WMax (.int a) (.int b) d next σ = next (put d (.int (max a b)) σ) := by
 have : (if b > a then b else a) = max a b := by omega
 rw [← this]
 simp only [WMax, AV.isInt, AV.toInt, and_self, true_and]
 rfl
def WMax3 (x y z : AV) (d : Option Nat) (next : AS → Prop) (σ : AS) : Prop := (x.isInt ∧ y.isInt ∧ z.isInt) ∧ next (put d (.int (imax (imax x.toInt y.toInt) z.toInt)) σ)
theorem w1_max3 {x y z : VO} : W1 P d (.max3 x y z) next σ = WMax3 (ev σ x) (ev σ y) (ev σ z) d next σ := rfl
theorem wmax3 {a b c : Int} : WMax3 (.int a) (.int b) (.int c) d next σ = next (put d (.int (max (max a b) c)) σ) := by
 have : imax (imax a b) c = max (max a b) c := by unfold imax; repeat' split
                                                  all_goals omega
 rw [← this]
 simp only [WMax3, AV.isInt, AV.toInt, and_self, true_and]
def WExt (x : AV) (i : Nat) (d : Option Nat) (next : AS → Prop) (σ : AS) : Prop :=
 match x with
 | .tup vs => i < vs.length ∧ next (put d (vs[i]?.getD .und) σ)
 | .tupw vs => i < vs.length ∧ next (put d (vs[i]?.getD .und) σ)
 | _ => False
theorem w1_ext {x : VO} {i : Nat} : W1 P d (.ext x i) next σ = WExt (ev σ x) i d next σ := by
 simp only [W1, vcond, vval, vnext]
 generalize ev σ x = v
 cases v <;> simp [WExt]
theorem wextw_0 {x : AV} {r : List AV} : WExt (.tupw (x :: r)) 0 d next σ = next (put d x σ) := by simp [WExt]
theorem wextw_1 {x y : AV} {r : List AV} : WExt (.tupw (x :: y :: r)) 1 d next σ = next (put d y σ) := by simp [WExt]
theorem wext_0 {x : AV} {r : List AV} : WExt (.tup (x :: r)) 0 d next σ = next (put d x σ) := by simp [WExt]
theorem wext_1 {x y : AV} {r : List AV} : WExt (.tup (x :: y :: r)) 1 d next σ = next (put d y σ) := by simp [WExt]
theorem wext_2 {x y z : AV} {r : List AV} : WExt (.tup (x :: y :: z :: r)) 2 d next σ = next (put d z σ) := by simp [WExt]
theorem wext_3 {x y z u : AV} {r : List AV} : WExt (.tup (x :: y :: z :: u :: r)) 3 d next σ = next (put d u σ) := by simp [WExt]
def WFld (off : Nat) (x : AV) (d : Option Nat) (next : AS → Prop) (σ : AS) : Prop :=
 match x with
 | .ptr b o => next (put d (.ptr b (o + off)) σ)
 | .ref sz es i o => next (put d (.ref sz es i (o + off)) σ)
 | _ => False
theorem w1_fld {off : Nat} {x : VO} : W1 P d (.fld off x) next σ = WFld off (ev σ x) d next σ := by
 simp only [W1, vcond, vval, vnext]
 generalize ev σ x = v
 cases v <;> simp [WFld]
theorem wfld_ptr {off b o : Nat} : WFld off (.ptr b o) d next σ = next (put d (.ptr b (o + off)) σ) := rfl
theorem wfld_ref {off sz i o : Nat} {es : List AV} : WFld off (.ref sz es i o) d next σ = next (put d (.ref sz es i (o + off)) σ) := rfl
def WNilck (x : AV) (d : Option Nat) (next : AS → Prop) (σ : AS) : Prop :=
 match x with
 | .ptr _ _ | .ref _ _ _ _ | .clo _ _ _ => next (put d x σ)
 | _ => False
theorem w1_nilck {x : VO} : W1 P d (.nilck x) next σ = WNilck (ev σ x) d next σ := by
 simp only [W1, vcond, vval, vnext]
 generalize ev σ x = v
 cases v <;> simp [WNilck]
theorem wnilck_ptr {b o : Nat} : WNilck (.ptr b o) d next σ = next (put d (.ptr b o) σ) := rfl
theorem wnilck_ref {sz i o : Nat} {es : List AV} : WNilck (.ref sz es i o) d next σ = next (put d (.ref sz es i o) σ) := rfl
theorem wnilck_clo {f : FuncId} {x y : List AV} : WNilck (.clo f x y) d next σ = next (put d (.clo f x y) σ) := rfl
def WNile (x : AV) (d : Option Nat) (next : AS → Prop) (σ : AS) : Prop :=
 match x with
 | .sl _ (_ :: _) _ => next (put d (.bool false) σ)
 | _ => False
def WCvu (x : AV) (d : Option Nat) (next : AS → Prop) (σ : AS) : Prop :=
 match x with
 | .int n => next (put d (.un (BitVec.ofInt 64 n)) σ)
 | .un b => next (put d (.un b) σ)
 | _ => False
theorem w1_cvu {x : VO} : W1 P d (.cvu x) next σ = WCvu (ev σ x) d next σ := by
 simp only [W1, vcond, vval, vnext]
 generalize ev σ x = v
 cases v <;> simp [WCvu]
theorem wcvu_int {n : Int} : WCvu (.int n) d next σ = next (put d (.un (BitVec.ofInt 64 n)) σ) := rfl
theorem wcvu_un {b : BitVec 64} : WCvu (.un b) d next σ = next (put d (.un b) σ) := rfl
theorem w1_nile {x : VO} : W1 P d (.nile x) next σ = WNile (ev σ x) d next σ := by
 simp only [W1, vcond, vval, vnext]
 generalize ev σ x = v
 unfold WNile
 split <;> simp
theorem wnile_ne {sz : Nat} {es : List AV} {md : VM} (h : 0 < es.length) : WNile (.sl sz es md) d next σ = next (put d (.bool false) σ) := by
 cases es with
 | nil => simp at h
 | cons e r => rfl
def WIdx (sz : Nat) (x i : AV) (d : Option Nat) (next : AS → Prop) (σ : AS) : Prop :=
 match x, i with
 | .sl sz' es _, .int n => (sz' = sz ∧ 0 ≤ n ∧ n < es.length) ∧ next (put d (.ref sz' es n.toNat 0) σ)
 | .bsl b off sz' k _, .int n => (sz' = sz ∧ 0 ≤ n ∧ n < k) ∧ next (put d (.ptr b (off + n.toNat * sz')) σ)
 | .gsl b i v sz' k _, .int n => (sz' = sz ∧ 0 ≤ n ∧ n < k) ∧ next (put d (.ptr (V.K b i v) (n.toNat * sz')) σ)
 | _, _ => False
theorem w1_idx {sz : Nat} {x i : VO} : W1 P d (.idx sz x i) next σ = WIdx sz (ev σ x) (ev σ i) d next σ := by
 simp only [W1, vcond, vval, vnext]
 generalize ev σ x = u
 generalize ev σ i = v
 cases u <;> cases v <;> simp [WIdx]
theorem widx_sl {sz : Nat} {es : List AV} {m : VM} {n : Int} (h : 0 ≤ n ∧ n < es.length) : WIdx sz (.sl sz es m) (.int n) d next σ = next (put d (.ref sz es n.toNat 0) σ) := by simp [WIdx, h]
theorem widx_bsl {sz b off k : Nat} {ag : Bool} {n : Int} (h : 0 ≤ n ∧ n < k) : WIdx sz (.bsl b off sz k ag) (.int n) d next σ = next (put d (.ptr b (off + n.toNat * sz)) σ) := by simp [WIdx, h]
theorem widx_gsl {sz b i v k : Nat} {ag : Bool} {n : Int} (h : 0 ≤ n ∧ n < k) : WIdx sz (.gsl b i v sz k ag) (.int n) d next σ = next (put d (.ptr (V.K b i v) (n.toNat * sz)) σ) := by simp [WIdx, h]
def WIdxA (len sz : Nat) (x i : AV) (d : Option Nat) (next : AS → Prop) (σ : AS) : Prop :=
 match x, i with
 | .ptr b o, .int n => (0 ≤ n ∧ n < len) ∧ next (put d (.ptr b (o + n.toNat * sz)) σ)
 | .ref z es j o, .int n => (0 ≤ n ∧ n < len) ∧ next (put d (.ref z es j (o + n.toNat * sz)) σ)
 | _, _ => False
theorem w1_idxA {len sz : Nat} {x i : VO} : W1 P d (.idxA len sz x i) next σ = WIdxA len sz (ev σ x) (ev σ i) d next σ := by
 simp only [W1, vcond, vval, vnext]
 generalize ev σ x = u
 generalize ev σ i = v
 cases u <;> cases v <;> simp [WIdxA]
theorem widxA_ptr {len sz b o : Nat} {n : Int} (h : 0 ≤ n ∧ n < len) : WIdxA len sz (.ptr b o) (.int n) d next σ = next (put d (.ptr b (o + n.toNat * sz)) σ) := by simp [WIdxA, h]
theorem widxA_ref {len sz z j o : Nat} {es : List AV} {n : Int} (h : 0 ≤ n ∧ n < len) : WIdxA len sz (.ref z es j o) (.int n) d next σ = next (put d (.ref z es j (o + n.toNat * sz)) σ) := by simp [WIdxA, h]
def WFieldV (off n : Nat) (ag : Bool) (x : AV) (d : Option Nat) (next : AS → Prop) (σ : AS) : Prop :=
 match x with
 | .agg cs => off + n ≤ cs.length ∧ next (put d (chunk ag n cs off) σ)
 | .aggw cs => off + n ≤ cs.length ∧ next (put d (if ag then .aggw ((cs.drop off).take n) else cs[off]?.getD .und) σ)
 | _ => False
theorem w1_fieldV {off n : Nat} {ag : Bool} {x : VO} : W1 P d (.fieldV off n ag x) next σ = WFieldV off n ag (ev σ x) d next σ := by
 simp only [W1, vcond, vval, vnext]
 generalize ev σ x = v
 cases v <;> simp [WFieldV, AV.cells]
theorem wfieldV_w {off n : Nat} {cs : List AV} : WFieldV off n true (.aggw cs) d next σ = (off + n ≤ cs.length ∧ next (put d (.aggw ((cs.drop off).take n)) σ)) := rfl
theorem wfieldV_w1 {off n : Nat} {cs : List AV} : WFieldV off n false (.aggw cs) d next σ = (off + n ≤ cs.length ∧ next (put d (cs[off]?.getD .und) σ)) := rfl
theorem wfieldV {off n : Nat} {ag : Bool} {cs : List AV} : WFieldV off n ag (.agg cs) d next σ = (off + n ≤ cs.length ∧ next (put d (chunk ag n cs off) σ)) := rfl
def WIndexV (len sz : Nat) (ag : Bool) (x i : AV) (d : Option Nat) (next : AS → Prop) (σ : AS) : Prop :=
 match x, i with
 | .agg cs, .int n => (cs.length = len * sz ∧ 0 < sz ∧ 0 ≤ n ∧ n < len) ∧ next (put d (chunk ag sz cs (n.toNat * sz)) σ)
 | _, _ => False
theorem w1_indexV {len sz : Nat} {ag : Bool} {x i : VO} : W1 P d (.indexV len sz ag x i) next σ = WIndexV len sz ag (ev σ x) (ev σ i) d next σ := by
 simp only [W1, vcond, vval, vnext]
 generalize ev σ x = u
 generalize ev σ i = v
 cases u <;> cases v <;> simp [WIndexV, AV.cells, AV.toInt]
theorem windexV {len sz : Nat} {ag : Bool} {cs : List AV} {n : Int} (h : 0 ≤ n ∧ n < len) (h2 : cs.length = len * sz) (h3 : 0 < sz) : WIndexV len sz ag (.agg cs) (.int n) d next σ = next (put d (chunk ag sz cs (n.toNat * sz)) σ) := by simp [WIndexV, h, h2, h3]
theorem tmod_cast {a b : Nat} : Int.tmod (a : Int) (b : Int) = ((a % b : Nat) : Int) := rfl
theorem tdiv_cast {a b : Nat} : Int.tdiv (a : Int) (b : Int) = ((a / b : Nat) : Int) := rfl
def WLoad (n : Nat) (ag : Bool) (x : AV) (avs : List Nat) (d : Option Nat) (next : AS → Prop) (σ : AS) : Prop :=
 match x with
 | .ptr b off => match getB σ.hp b with
  | some bx => (off + n ≤ bx.cells.length ∧ avOK b avs) ∧ next (put d (if ag then .agg ((((bx.cells.drop off).take n)).map (strip (frzL (bids ((bx.cells.drop off).take n)) σ.hp))) else bx.cells[off]?.getD .und) (if ag then frzS (bids ((bx.cells.drop off).take n)) σ else σ))
  | none => False
 | .ref sz es i off => (i < es.length ∧ off + n ≤ sz) ∧ next (put d (chunk ag n (es[i]?.getD .und).cells off) σ)
 | _ => False
theorem w1_load {n : Nat} {ag : Bool} {x : VO} {avs : List Nat} : W1 P d (.load n ag x avs) next σ = WLoad n ag (ev σ x) avs d next σ := by
 simp only [W1, vcond, vval, vnext]
 generalize ev σ x = v
 cases v <;> simp only [WLoad, false_and]
 rename_i b off
 cases getB σ.hp b <;> simp
theorem wload_emb {α : Type} [Inhabited α] {f : α → AV} {l : List α} {n sz i off : Nat} {ag : Bool} {avs : List Nat} (h : i < l.length ∧ off + n ≤ sz) : WLoad n ag (.ref sz (l.map f) i off) avs d next σ = next (put d (chunk ag n (f (l[i]?.getD default)).cells off) σ) := by
 obtain ⟨h1, h2⟩ := h
 simp [WLoad, h1, h2]
def WLoadB (n : Nat) (ag : Bool) (b off : Nat) (cells : List AV) (avs : List Nat) (d : Option Nat) (next : AS → Prop) (fr : List (Nat × AV)) (hp : List (Nat × BX)) (tk : List (Nat × Nat)) (pd : Option Ex) : Prop :=
 (off + n ≤ cells.length ∧ avOK b avs) ∧ next (put d (if ag then .agg ((((cells.drop off).take n)).map (strip (frzL (bids ((cells.drop off).take n)) hp))) else cells[off]?.getD .und) (if ag then ⟨fr, frzL (bids ((cells.drop off).take n)) hp, tk, pd⟩ else ⟨fr, hp, tk, pd⟩))
theorem wload_ptr {n b off : Nat} {ag : Bool} {avs : List Nat} {fr : List (Nat × AV)} {hp : List (Nat × BX)} {tk : List (Nat × Nat)} {pd : Option Ex} : WLoad n ag (.ptr b off) avs d next ⟨fr, hp, tk, pd⟩ = (match getB hp b with
  | some bx => WLoadB n ag b off bx.cells avs d next fr hp tk pd
  | none => False) := rfl
theorem wloadb_ag {n b off : Nat} {cells : List AV} {avs : List Nat} {fr : List (Nat × AV)} {hp : List (Nat × BX)} {tk : List (Nat × Nat)} {pd : Option Ex} (h : off + n ≤ cells.length) : WLoadB n true b off cells avs d next fr hp tk pd =
  (avOK b avs ∧ next (put d (.agg ((((cells.drop off).take n)).map (strip (frzL (bids ((cells.drop off).take n)) hp)))) ⟨fr, frzL (bids ((cells.drop off).take n)) hp, tk, pd⟩)) := by simp [WLoadB, h]
theorem wloadb_1 {n b off : Nat} {cells : List AV} {avs : List Nat} {fr : List (Nat × AV)} {hp : List (Nat × BX)} {tk : List (Nat × Nat)} {pd : Option Ex} (h : off + n ≤ cells.length) : WLoadB n false b off cells avs d next fr hp tk pd =
  (avOK b avs ∧ next (put d (cells[off]?.getD .und) ⟨fr, hp, tk, pd⟩)) := by simp [WLoadB, h]
theorem avok {b : Nat} {avs : List Nat} : avOK b avs = (¬ b ∈ avs ∧ (¬ 1048576 ∈ avs ∨ b < 1048576)) := rfl
def WLoadW (n : Nat) (x : AV) (avs : List Nat) (d : Option Nat) (next : AS → Prop) (σ : AS) : Prop :=
 match x with
 | .ptr b off => match getB σ.hp b with
  | some bx => (off + n ≤ bx.cells.length ∧ avOK b avs) ∧ next (put d (.aggw (((bx.cells.drop off).take n).map AV.shr)) σ)
  | none => False
 | _ => False
theorem w1_loadW {n : Nat} {x : VO} {avs : List Nat} : W1 P d (.loadW n x avs) next σ = WLoadW n (ev σ x) avs d next σ := by
 simp only [W1, vcond, vval, vnext]
 generalize ev σ x = v
 cases v <;> simp only [WLoadW, false_and]
 rename_i b off
 cases getB σ.hp b <;> simp
def WLoadWB (n b off : Nat) (cells : List AV) (avs : List Nat) (d : Option Nat) (next : AS → Prop) (fr : List (Nat × AV)) (hp : List (Nat × BX)) (tk : List (Nat × Nat)) (pd : Option Ex) : Prop :=
 (off + n ≤ cells.length ∧ avOK b avs) ∧ next (put d (.aggw (((cells.drop off).take n).map AV.shr)) ⟨fr, hp, tk, pd⟩)
theorem wloadW_ptr {n b off : Nat} {avs : List Nat} {fr : List (Nat × AV)} {hp : List (Nat × BX)} {tk : List (Nat × Nat)} {pd : Option Ex} : WLoadW n (.ptr b off) avs d next ⟨fr, hp, tk, pd⟩ = (match getB hp b with
  | some bx => WLoadWB n b off bx.cells avs d next fr hp tk pd
  | none => False) := rfl
theorem wloadWb {n b off : Nat} {cells : List AV} {avs : List Nat} {fr : List (Nat × AV)} {hp : List (Nat × BX)} {tk : List (Nat × Nat)} {pd : Option Ex} (h : off + n ≤ cells.length) : WLoadWB n b off cells avs d next fr hp tk pd =
  (avOK b avs ∧ next (put d (.aggw (((cells.drop off).take n).map AV.shr)) ⟨fr, hp, tk, pd⟩)) := by simp [WLoadWB, h]
theorem w1_nilsG {b sz : Nat} {ix : Option VO} {ag : Bool} {fr : List (Nat × AV)} {hp : List (Nat × BX)} {tk : List (Nat × Nat)} {pd : Option Ex} : W1 P d (.nilsG b ix sz ag) next ⟨fr, hp, tk, pd⟩ =
  (getB hp (V.K b (dynI ⟨fr, hp, tk, pd⟩ ix) 0) = none ∧ next (put d (.gsl b (dynI ⟨fr, hp, tk, pd⟩ ix) 0 sz 0 ag) ⟨fr, (V.K b (dynI ⟨fr, hp, tk, pd⟩ ix) 0, ⟨[], false⟩) :: hp, tk, pd⟩)) := rfl
theorem dynI_none : dynI σ none = 0 := rfl
theorem dynI_some {x : VO} : dynI σ (some x) = dynN (ev σ x) := rfl
theorem dynN_int {n : Int} : dynN (.int n) = n.toNat := rfl
theorem dynN_sl {sz : Nat} {es : List AV} {m : VM} : dynN (.sl sz es m) = es.length := rfl
theorem toInt_int {n : Int} : (AV.int n).toInt = n := rfl
theorem yInfo_sl {sz : Nat} {fs : List AV} {m : VM} : yInfo (.sl sz fs m) = some (sz, fs.length, flat fs) := rfl
theorem yInfo_lsl {sz k : Nat} {cs : List AV} : yInfo (.lsl sz k cs) = some (sz, k, cs) := rfl
theorem flat_nil : flat [] = [] := rfl
theorem flat_cons {e : AV} {r : List AV} : flat (e :: r) = e.cells ++ flat r := rfl
theorem flatW_nil : flatW [] = [] := rfl
theorem flatW_cons {e : AV} {r : List AV} : flatW (e :: r) = e.cells.map AV.shr ++ flatW r := rfl
theorem shr_int {n : Int} : (AV.int n).shr = .int n := rfl
theorem shr_bool {n : Bool} : (AV.bool n).shr = .bool n := rfl
theorem shr_un {n : BitVec 64} : (AV.un n).shr = .un n := rfl
theorem shr_und : AV.und.shr = .und := rfl
theorem shr_ptr {b o : Nat} : (AV.ptr b o).shr = .ptr b o := rfl
theorem shr_ref {sz i off : Nat} {l : List AV} : (AV.ref sz l i off).shr = .ref sz l i off := rfl
theorem shr_bsl {b off sz n : Nat} {ag : Bool} : (AV.bsl b off sz n ag).shr = .bsl b off sz n ag := rfl
theorem shr_gsl {b i v sz n : Nat} {ag : Bool} : (AV.gsl b i v sz n ag).shr = .gsl b i v sz n ag := rfl
theorem shr_sh {sz : Nat} {es : List AV} : (AV.sl sz es .sh).shr = .sl sz es .sh := rfl
theorem shr_full {sz : Nat} {es : List AV} : (AV.sl sz es .full).shr = .sl sz es .full := rfl
theorem shr_own {sz k : Nat} {es : List AV} : (AV.sl sz es (.own k)).shr = .sl sz es .sh := rfl
theorem shr_clo {f : FuncId} {a b : List AV} : (AV.clo f a b).shr = .clo f a b := rfl
theorem fillW_nil {cells : List AV} : fillW σ cells [] = cells := rfl
theorem fillW_cons {cells : List AV} {off n : Nat} {x : VO} {r : List (Nat × Nat × VO)} : fillW σ cells ((off, n, x) :: r) = fillW σ (setAt cells off ((ev σ x).cells.map AV.shr)) r := rfl
theorem fillWOk_nil {n : Nat} : fillWOk σ n [] = True := rfl
theorem fillWOk_cons {k off n : Nat} {x : VO} {r : List (Nat × Nat × VO)} : fillWOk σ k ((off, n, x) :: r) = ((ev σ x).okv = true ∧ (ev σ x).cells.length = n ∧ off + n ≤ k ∧ fillWOk σ k r) := rfl
theorem w1_bsliceW {sz : Nat} {xs : List VO} {fr : List (Nat × AV)} {hp : List (Nat × BX)} {tk : List (Nat × Nat)} {pd : Option Ex} : W1 P d (.bsliceW sz xs) next ⟨fr, hp, tk, pd⟩ =
  ((allOk (evs ⟨fr, hp, tk, pd⟩ xs) ∧ allSz sz (evs ⟨fr, hp, tk, pd⟩ xs)) ∧ next (put d (.lsl sz xs.length (flatW (evs ⟨fr, hp, tk, pd⟩ xs))) ⟨fr, hp, tk, pd⟩)) := rfl
theorem w1_buildW {z : List AV} {ps : List (Nat × Nat × VO)} {fr : List (Nat × AV)} {hp : List (Nat × BX)} {tk : List (Nat × Nat)} {pd : Option Ex} : W1 P d (.buildW z ps) next ⟨fr, hp, tk, pd⟩ =
  (fillWOk ⟨fr, hp, tk, pd⟩ z.length ps ∧ next (put d (.aggw (fillW ⟨fr, hp, tk, pd⟩ z ps)) ⟨fr, hp, tk, pd⟩)) := rfl
def WAppB (b i v sz n k : Nat) (cs : List AV) (ag : Bool) (bx fb : Option BX) (d : Option Nat) (next : AS → Prop) (fr : List (Nat × AV)) (hp : List (Nat × BX)) (tk : List (Nat × Nat)) (pd : Option Ex) : Prop :=
 (n + k ≤ 4294967296 ∧ fb = none) ∧
 match bx with
 | some ⟨cells, false⟩ => cells.length = n * sz ∧ next (put d (.gsl b i (v + 1) sz (n + k) ag) ⟨fr, (V.K b i (v + 1), ⟨cells ++ cs, false⟩) :: setB (V.K b i v) ⟨[], true⟩ hp, tk, pd⟩)
 | _ => False
def WAppG (b0 i0 sz : Nat) (ag : Bool) (x : AV) (y : Option (Nat × Nat × List AV)) (d : Option Nat) (next : AS → Prop) (fr : List (Nat × AV)) (hp : List (Nat × BX)) (tk : List (Nat × Nat)) (pd : Option Ex) : Prop :=
 match y with
 | none => False
 | some (sz'', k, cs) => sz'' = sz ∧
  match x with
  | .gsl b i v sz' n ag' => (b = b0 ∧ sz' = sz ∧ ag' = ag) ∧ WAppB b i v sz n k cs ag (getB hp (V.K b i v)) (getB hp (V.K b i (v + 1))) d next fr hp tk pd
  | .sl sz' [] .full => (sz' = sz ∧ k ≤ 4294967296 ∧ getB hp (V.K b0 i0 0) = none) ∧ next (put d (.gsl b0 i0 0 sz k ag) ⟨fr, (V.K b0 i0 0, ⟨cs, false⟩) :: hp, tk, pd⟩)
  | _ => False
theorem w1_appG {b sz by_ : Nat} {ix : Option VO} {ag : Bool} {x y : VO} {fr : List (Nat × AV)} {hp : List (Nat × BX)} {tk : List (Nat × Nat)} {pd : Option Ex} : W1 P d (.appG b ix sz by_ ag x y) next ⟨fr, hp, tk, pd⟩ =
  WAppG b (dynI ⟨fr, hp, tk, pd⟩ ix) sz ag (ev ⟨fr, hp, tk, pd⟩ x) (yInfo (ev ⟨fr, hp, tk, pd⟩ y)) d next fr hp tk pd := by
 apply propext
 simp only [W1, vcond, vval, vnext, WAppG]
 generalize yInfo (ev ⟨fr, hp, tk, pd⟩ y) = q
 cases q with
 | none => simp only [false_and]
 | some q =>
  obtain ⟨sz'', k, cs⟩ := q
  simp only
  generalize ev ⟨fr, hp, tk, pd⟩ x = u
  constructor
  ·rintro ⟨⟨rfl, h1⟩, h2⟩
   refine ⟨rfl, ?_⟩
   split at h1 <;> first | exact h1.elim | skip
   ·rename_i b' i v sz' n ag'
    obtain ⟨rfl, rfl, rfl, h3, h4, h5⟩ := h1
    refine ⟨⟨rfl, rfl, rfl⟩, ⟨by unfold small at h3; omega, h4⟩, ?_⟩
    split at h5 <;> first | exact h5.elim | skip
    rename_i cells hg
    simp only [hg] at h2 ⊢
    exact ⟨h5, h2⟩
   ·obtain ⟨rfl, h3, h4⟩ := h1
    exact ⟨⟨rfl, by unfold small at h3; omega, h4⟩, h2⟩
  ·rintro ⟨rfl, h1⟩
   split at h1 <;> first | exact h1.elim | skip
   ·rename_i b' i v sz' n ag'
    obtain ⟨⟨rfl, rfl, rfl⟩, ⟨h3, h4⟩, h5⟩ := h1
    split at h5 <;> first | exact h5.elim | skip
    rename_i cells hg
    simp only [hg]
    exact ⟨⟨trivial, trivial, trivial, trivial, by unfold small; omega, h4, h5.1⟩, h5.2⟩
   ·obtain ⟨⟨rfl, h3, h4⟩, h5⟩ := h1
    exact ⟨⟨rfl, rfl, by unfold small; omega, h4⟩, h5⟩
theorem wappG_gsl {b i0 i v sz n k : Nat} {ag : Bool} {cs : List AV} {fr : List (Nat × AV)} {hp : List (Nat × BX)} {tk : List (Nat × Nat)} {pd : Option Ex} : WAppG b i0 sz ag (.gsl b i v sz n ag) (some (sz, k, cs)) d next fr hp tk pd =
  WAppB b i v sz n k cs ag (getB hp (V.K b i v)) (getB hp (V.K b i (v + 1))) d next fr hp tk pd := by simp [WAppG]
theorem wappG_nil {b i0 sz k : Nat} {ag : Bool} {cs : List AV} {fr : List (Nat × AV)} {hp : List (Nat × BX)} {tk : List (Nat × Nat)} {pd : Option Ex} (h : k ≤ 4294967296) : WAppG b i0 sz ag (.sl sz [] .full) (some (sz, k, cs)) d next fr hp tk pd =
  (getB hp (V.K b i0 0) = none ∧ next (put d (.gsl b i0 0 sz k ag) ⟨fr, (V.K b i0 0, ⟨cs, false⟩) :: hp, tk, pd⟩)) := by simp [WAppG, h]
theorem wappB {b i v sz n k : Nat} {ag : Bool} {cs cells : List AV} {fr : List (Nat × AV)} {hp : List (Nat × BX)} {tk : List (Nat × Nat)} {pd : Option Ex} (h : n + k ≤ 4294967296) : WAppB b i v sz n k cs ag (some ⟨cells, false⟩) none d next fr hp tk pd =
  (cells.length = n * sz ∧ next (put d (.gsl b i (v + 1) sz (n + k) ag) ⟨fr, (V.K b i (v + 1), ⟨cells ++ cs, false⟩) :: setB (V.K b i v) ⟨[], true⟩ hp, tk, pd⟩)) := by simp [WAppB, h]
theorem wopsN {dr : Bool} {l : List VOper} {ks : Option (List Nat)} (bs : List Nat) (h : WOps P dr l (Kp ks (Q .norm)) (nrm bs σ)) : WP P (.opsN dr l ks) Q σ := ⟨bs, .inl h⟩
theorem wopsB {l1 l2 : List VOper} {c : VOper} {ks : Option (List Nat)} (bs : List Nat) (h : WOps P true l1 (WOp P false c (WOps P true l2 (Kp ks (Q .norm)))) (nrm bs σ)) : WP P (.opsB l1 c l2 ks) Q σ := ⟨bs, .inl h⟩
theorem wopsBW {l1 l2 : List VOper} {c : VOper} {ks : Option (List Nat)} (σ' : AS) (hl : leS σ σ') (hx : leX σ' P.X) (h : WOps P true l1 (WOp P false c (WOps P true l2 (Kp ks (Q .norm)))) σ') : WP P (.opsB l1 c l2 ks) Q σ := ⟨[], .inr ⟨σ', .inr hl, hx, h⟩⟩
theorem wp_opsB2 {l1 l2 l3 : List VOper} {c c' : VOper} {ks : Option (List Nat)} : WP P (.opsB2 l1 c l2 c' l3 ks) Q σ = WOps P true l1 (WOp P false c (WOps P true l2 (WOp P false c' (WOps P true l3 (Kp ks (Q .norm)))))) σ := rfl
theorem nrm_mk {bs : List Nat} {fr : List (Nat × AV)} {hp : List (Nat × BX)} {tk : List (Nat × Nat)} {pd : Option Ex} : nrm bs ⟨fr, hp, tk, pd⟩ = ⟨tidyFr (frzL bs hp) fr, tidyHp (frzL bs hp) (frzL bs hp), tk, pd⟩ := rfl
theorem tidyFr_nil {hp : HpL} : tidyFr hp [] = [] := rfl
theorem tidyFr_cons {hp : HpL} {t : Nat} {v : AV} {r : FrL} : tidyFr hp ((t, v) :: r) = (t, tidy hp v) :: tidyFr hp r := rfl
theorem tidyHp_nil {hp : HpL} : tidyHp hp [] = [] := rfl
theorem tidyHp_cons {hp r : HpL} {b : Nat} {cs : List AV} {f : Bool} : tidyHp hp ((b, ⟨cs, f⟩) :: r) = (b, ⟨cs.map (tidy hp), f⟩) :: tidyHp hp r := rfl
section
variable {hp : HpL}
theorem tidy_int {n : Int} : tidy hp (.int n) = .int n := rfl
theorem tidy_bool {n : Bool} : tidy hp (.bool n) = .bool n := rfl
theorem tidy_un {n : BitVec 64} : tidy hp (.un n) = .un n := rfl
theorem tidy_und : tidy hp .und = .und := rfl
theorem tidy_nul : tidy hp .nul = .nul := rfl
theorem tidy_agg {l : List AV} : tidy hp (.agg l) = .agg l := rfl
theorem tidy_tup {l : List AV} : tidy hp (.tup l) = .tup l := rfl
theorem tidy_sl {sz : Nat} {l : List AV} {m : VM} : tidy hp (.sl sz l m) = .sl sz l m := rfl
theorem tidy_ref {sz i off : Nat} {l : List AV} : tidy hp (.ref sz l i off) = .ref sz l i off := rfl
theorem tidy_ptr {b o : Nat} : tidy hp (.ptr b o) = (match getB hp b with
  | some ⟨cells, true⟩ => .ref cells.length [.agg cells] 0 o
  | _ => .ptr b o) := rfl
theorem tidy_clo {f : FuncId} {a b : List AV} : tidy hp (.clo f a b) = .clo f a b := rfl
theorem tidy_clw {f : FuncId} {a b : List AV} : tidy hp (.clw f a b) = .clw f a b := rfl
theorem tidy_yld {n : Nat} : tidy hp (.yld n) = .yld n := rfl
theorem tidy_lsl {sz n : Nat} {l : List AV} : tidy hp (.lsl sz n l) = .lsl sz n l := rfl
theorem tidy_aggw {l : List AV} : tidy hp (.aggw l) = .aggw (l.map (tidy1 hp)) := rfl
theorem tidy_bsl {b off sz n : Nat} {ag : Bool} : tidy hp (.bsl b off sz n ag) = (match getB hp b with
  | some ⟨cells, true⟩ => if off + n * sz ≤ cells.length ∧ (ag = true ∨ sz = 1) then .sl sz (chunks ag sz cells off n) .sh else .bsl b off sz n ag
  | _ => .bsl b off sz n ag) := rfl
theorem tidy_gsl {b i v sz n : Nat} {ag : Bool} : tidy hp (.gsl b i v sz n ag) = (match getB hp (V.K b i v) with
  | some ⟨cells, true⟩ => if n * sz ≤ cells.length ∧ (ag = true ∨ sz = 1) then .sl sz (chunks ag sz cells 0 n) .sh else .gsl b i v sz n ag
  | _ => .gsl b i v sz n ag) := rfl
theorem tidy1_int {n : Int} : tidy1 hp (.int n) = .int n := rfl
theorem tidy1_bool {n : Bool} : tidy1 hp (.bool n) = .bool n := rfl
theorem tidy1_un {n : BitVec 64} : tidy1 hp (.un n) = .un n := rfl
theorem tidy1_und : tidy1 hp .und = .und := rfl
theorem tidy1_sl {sz : Nat} {l : List AV} {m : VM} : tidy1 hp (.sl sz l m) = .sl sz l m := rfl
theorem tidy1_ref {sz i off : Nat} {l : List AV} : tidy1 hp (.ref sz l i off) = .ref sz l i off := rfl
theorem tidy1_ptr {b o : Nat} : tidy1 hp (.ptr b o) = (match getB hp b with
  | some ⟨cells, true⟩ => .ref cells.length [.agg cells] 0 o
  | _ => .ptr b o) := rfl
theorem tidy1_clo {f : FuncId} {a b : List AV} : tidy1 hp (.clo f a b) = .clo f a b := rfl
theorem tidy1_bsl {b off sz n : Nat} {ag : Bool} : tidy1 hp (.bsl b off sz n ag) = (match getB hp b with
  | some ⟨cells, true⟩ => if off + n * sz ≤ cells.length ∧ (ag = true ∨ sz = 1) then .sl sz (chunks ag sz cells off n) .sh else .bsl b off sz n ag
  | _ => .bsl b off sz n ag) := rfl
theorem tidy1_gsl {b i v sz n : Nat} {ag : Bool} : tidy1 hp (.gsl b i v sz n ag) = (match getB hp (V.K b i v) with
  | some ⟨cells, true⟩ => if n * sz ≤ cells.length ∧ (ag = true ∨ sz = 1) then .sl sz (chunks ag sz cells 0 n) .sh else .gsl b i v sz n ag
  | _ => .gsl b i v sz n ag) := rfl
end
theorem ver_ne {v : Nat} : (v = v + 1) = False := by simp
theorem ver_ne' {v : Nat} : (v + 1 = v) = False := by simp
def WStore (n : Nat) (p v : AV) (ob : Option Nat) (d : Option Nat) (next : AS → Prop) (σ : AS) : Prop :=
 match p with
 | .ptr b off => match getB σ.hp b with
  | some bx => ((ob = none ∨ ob = some b) ∧ bx.frz = false ∧ off + n ≤ bx.cells.length ∧ v.okv = true ∧ v.cells.length = n) ∧ next (put d .und { σ with hp := setB b ⟨setAt bx.cells off v.cells, false⟩ σ.hp })
  | none => False
 | _ => False
theorem w1_store {n : Nat} {p x : VO} {ob : Option Nat} : W1 P d (.store n p x ob) next σ = WStore n (ev σ p) (ev σ x) ob d next σ := by
 simp only [W1, vcond, vval, vnext]
 generalize ev σ p = u
 cases u <;> simp only [WStore, false_and]
 rename_i b off
 cases getB σ.hp b <;> simp only [false_and]
def WStoreB (n b off : Nat) (bx : BX) (v : AV) (ob : Option Nat) (d : Option Nat) (next : AS → Prop) (fr : List (Nat × AV)) (hp : List (Nat × BX)) (tk : List (Nat × Nat)) (pd : Option Ex) : Prop :=
 ((ob = none ∨ ob = some b) ∧ bx.frz = false ∧ off + n ≤ bx.cells.length ∧ v.okv = true ∧ v.cells.length = n) ∧ next (put d .und ⟨fr, setB b ⟨setAt bx.cells off v.cells, false⟩ hp, tk, pd⟩)
theorem wstore_ptr {n b off : Nat} {v : AV} {ob : Option Nat} {fr : List (Nat × AV)} {hp : List (Nat × BX)} {tk : List (Nat × Nat)} {pd : Option Ex} : WStore n (.ptr b off) v ob d next ⟨fr, hp, tk, pd⟩ = (match getB hp b with
  | some bx => WStoreB n b off bx v ob d next fr hp tk pd
  | none => False) := rfl
theorem wstoreb {n b off : Nat} {cells : List AV} {v : AV} {ob : Option Nat} {fr : List (Nat × AV)} {hp : List (Nat × BX)} {tk : List (Nat × Nat)} {pd : Option Ex} (h : off + n ≤ cells.length) : WStoreB n b off ⟨cells, false⟩ v ob d next fr hp tk pd =
  ((ob = none ∨ ob = some b) ∧ v.okv = true ∧ v.cells.length = n ∧ next (put d .und ⟨fr, setB b ⟨setAt cells off v.cells, false⟩ hp, tk, pd⟩)) := by simp [WStoreB, h, and_assoc]
def WMakes (b sz : Nat) (ag : Bool) (z : List AV) (x : AV) (d : Option Nat) (next : AS → Prop) (σ : AS) : Prop :=
 match x with
 | .int n => (getB σ.hp b = none ∧ 0 ≤ n ∧ n ≤ 4294967296) ∧ next (put d (.bsl b 0 sz n.toNat ag) { σ with hp := (b, ⟨zeros z n.toNat, false⟩) :: σ.hp })
 | _ => False
theorem w1_makes {b sz by_ : Nat} {ag : Bool} {z : List AV} {x : VO} : W1 P d (.makes b sz by_ ag z x) next σ = WMakes b sz ag z (ev σ x) d next σ := by
 simp only [W1, vcond, vval, vnext]
 generalize ev σ x = v
 cases v <;> simp only [WMakes, false_and, AV.toInt]
 rename_i n
 simp only [small]
 congr 1
 apply propext
 constructor
 ·rintro ⟨h1, h2, h3⟩; exact ⟨h1, h2, by omega⟩
 ·rintro ⟨h1, h2, h3⟩; exact ⟨h1, h2, by omega⟩
theorem wmakes {b sz : Nat} {ag : Bool} {z : List AV} {n : Int} {fr : List (Nat × AV)} {hp : List (Nat × BX)} {tk : List (Nat × Nat)} {pd : Option Ex} (h : 0 ≤ n ∧ n ≤ 4294967296) :
  WMakes b sz ag z (.int n) d next ⟨fr, hp, tk, pd⟩ = (getB hp b = none ∧ next (put d (.bsl b 0 sz n.toNat ag) ⟨fr, (b, ⟨zeros z n.toNat, false⟩) :: hp, tk, pd⟩)) := by simp [WMakes, h]
def WMake0 (k sz : Nat) (x : AV) (d : Option Nat) (next : AS → Prop) (σ : AS) : Prop :=
 match x with
 | .int n => (getT σ.tk k = none ∧ 0 ≤ n ∧ n ≤ 4294967296) ∧ next (put d (.sl sz [] (.own k)) { σ with tk := (k, 0) :: σ.tk })
 | _ => False
theorem w1_make0 {k sz by_ : Nat} {x : VO} : W1 P d (.make0 k sz by_ x) next σ = WMake0 k sz (ev σ x) d next σ := by
 simp only [W1, vcond, vval, vnext]
 generalize ev σ x = v
 cases v <;> simp only [WMake0, false_and]
 rename_i n
 simp only [small]
 congr 1
 apply propext
 constructor
 ·rintro ⟨h1, h2, h3⟩; exact ⟨h1, h2, by omega⟩
 ·rintro ⟨h1, h2, h3⟩; exact ⟨h1, h2, by omega⟩
theorem wmake0 {k sz : Nat} {n : Int} {fr : List (Nat × AV)} {hp : List (Nat × BX)} {tk : List (Nat × Nat)} {pd : Option Ex} (h : 0 ≤ n ∧ n ≤ 4294967296) :
  WMake0 k sz (.int n) d next ⟨fr, hp, tk, pd⟩ = (getT tk k = none ∧ next (put d (.sl sz [] (.own k)) ⟨fr, hp, (k, 0) :: tk, pd⟩)) := by simp [WMake0, h]
def WApp (k0 sz by_ : Nat) (x y : AV) (d : Option Nat) (next : AS → Prop) (σ : AS) : Prop :=
 match x, y with
 | .sl sz' es m, .sl sz'' fs _ => (sz' = sz ∧ sz'' = sz ∧ fits (es.length + fs.length) by_) ∧
  (match m with
   | .sh => False
   | .full => getT σ.tk k0 = none ∧ next (put d (.sl sz (es ++ fs) (.own k0)) { σ with tk := (k0, es.length + fs.length) :: σ.tk })
   | .own k => getT σ.tk k = some es.length ∧ next (put d (.sl sz (es ++ fs) (.own k)) { σ with tk := setT k (es.length + fs.length) σ.tk }))
 | _, _ => False
theorem w1_app {k sz by_ : Nat} {x y : VO} : W1 P d (.app k sz by_ x y) next σ = WApp k sz by_ (ev σ x) (strip σ.hp (ev σ y)) d next σ := by
 simp only [W1, vcond, vval, vnext]
 generalize ev σ x = u
 generalize strip σ.hp (ev σ y) = v
 cases u <;> cases v <;> simp only [WApp, false_and]
 rename_i m _ _ _
 cases m <;> simp only [and_false, false_and, and_assoc]
theorem fits_of {n by_ : Nat} (h : n ≤ 4294967296) : fits n by_ := ⟨by omega, .inl h⟩
theorem wapp_own {k0 k sz by_ : Nat} {es fs : List AV} {m : VM} {fr : List (Nat × AV)} {hp : List (Nat × BX)} {tk : List (Nat × Nat)} {pd : Option Ex} (h : es.length + fs.length ≤ 4294967296) :
  WApp k0 sz by_ (.sl sz es (.own k)) (.sl sz fs m) d next ⟨fr, hp, tk, pd⟩ = (getT tk k = some es.length ∧ next (put d (.sl sz (es ++ fs) (.own k)) ⟨fr, hp, setT k (es.length + fs.length) tk, pd⟩)) := by simp [WApp, fits_of h]
theorem wapp_full {k0 sz by_ : Nat} {es fs : List AV} {m : VM} {fr : List (Nat × AV)} {hp : List (Nat × BX)} {tk : List (Nat × Nat)} {pd : Option Ex} (h : es.length + fs.length ≤ 4294967296) :
  WApp k0 sz by_ (.sl sz es .full) (.sl sz fs m) d next ⟨fr, hp, tk, pd⟩ = (getT tk k0 = none ∧ next (put d (.sl sz (es ++ fs) (.own k0)) ⟨fr, hp, (k0, es.length + fs.length) :: tk, pd⟩)) := by simp [WApp, fits_of h]
def evo (σ : AS) : Option VO → Option AV
 | some x => some (ev σ x)
 | none => none
def lo0 : Option AV → AV
 | some x => x
 | none => .int 0
def hi0 (n : Nat) : Option AV → AV
 | some x => x
 | none => .int n
def WSlice (sz : Nat) (x : AV) (lo hi : Option AV) (d : Option Nat) (next : AS → Prop) (σ : AS) : Prop :=
 match x with
 | .sl sz' es _ => match lo0 lo, hi0 es.length hi with
  | .int l, .int h => (sz' = sz ∧ 0 ≤ l ∧ l ≤ h ∧ h ≤ es.length) ∧ next (put d (.sl sz ((es.take h.toNat).drop l.toNat) .sh) σ)
  | _, _ => False
 | _ => False
theorem opt_lo {x : Option VO} : optInt σ 0 x = lo0 (evo σ x) := by cases x <;> rfl
theorem opt_hi {x : Option VO} {n : Nat} : optInt σ (n : Int) x = hi0 n (evo σ x) := by cases x <;> rfl
theorem w1_slice {sz : Nat} {x : VO} {lo hi : Option VO} : W1 P d (.slice sz x lo hi) next σ = WSlice sz (ev σ x) (evo σ lo) (evo σ hi) d next σ := by
 simp only [W1, vcond, vval, vnext, opt_lo, opt_hi]
 generalize ev σ x = v
 cases v <;> simp only [WSlice, false_and]
 rename_i sz' es m
 generalize lo0 (evo σ lo) = u
 generalize hi0 es.length (evo σ hi) = u'
 cases u <;> cases u' <;> simp only [false_and, AV.toInt]
theorem wslice_lh {sz : Nat} {es : List AV} {m : VM} {l h : Int} (hc : 0 ≤ l ∧ l ≤ h ∧ h ≤ es.length) : WSlice sz (.sl sz es m) (some (.int l)) (some (.int h)) d next σ = next (put d (.sl sz ((es.take h.toNat).drop l.toNat) .sh) σ) := by simp [WSlice, lo0, hi0, hc]
theorem wslice_l {sz : Nat} {es : List AV} {m : VM} {l : Int} (hc : 0 ≤ l ∧ l ≤ es.length) : WSlice sz (.sl sz es m) (some (.int l)) none d next σ = next (put d (.sl sz (es.drop l.toNat) .sh) σ) := by simp [WSlice, lo0, hi0, hc]
theorem wslice_h {sz : Nat} {es : List AV} {m : VM} {h : Int} (hc : 0 ≤ h ∧ h ≤ es.length) : WSlice sz (.sl sz es m) none (some (.int h)) d next σ = next (put d (.sl sz (es.take h.toNat) .sh) σ) := by simp [WSlice, lo0, hi0, hc]
theorem wslice_n {sz : Nat} {es : List AV} {m : VM} : WSlice sz (.sl sz es m) none none d next σ = next (put d (.sl sz es .sh) σ) := by simp [WSlice, lo0, hi0]
theorem w1_build {z : List AV} {ps : List (Nat × Nat × VO)} {fr : List (Nat × AV)} {hp : List (Nat × BX)} {tk : List (Nat × Nat)} {pd : Option Ex} : W1 P d (.build z ps) next ⟨fr, hp, tk, pd⟩ = (fillOk hp ⟨fr, hp, tk, pd⟩ z.length ps ∧ next (put d (.agg (fillV hp ⟨fr, hp, tk, pd⟩ z ps)) ⟨fr, hp, tk, pd⟩)) := rfl
theorem w1_bslice {sz : Nat} {xs : List VO} {fr : List (Nat × AV)} {hp : List (Nat × BX)} {tk : List (Nat × Nat)} {pd : Option Ex} : W1 P d (.bslice sz xs) next ⟨fr, hp, tk, pd⟩ = ((allOk (strips hp (evs ⟨fr, hp, tk, pd⟩ xs)) ∧ allSz sz (strips hp (evs ⟨fr, hp, tk, pd⟩ xs))) ∧ next (put d (.sl sz (strips hp (evs ⟨fr, hp, tk, pd⟩ xs)) .full) ⟨fr, hp, tk, pd⟩)) := rfl
theorem w1_mkf {f : FuncId} {xs : List VO} {fr : List (Nat × AV)} {hp : List (Nat × BX)} {tk : List (Nat × Nat)} {pd : Option Ex} : W1 P d (.mkf f xs) next ⟨fr, hp, tk, pd⟩ = (allOk (strips (frzL (bids (evs ⟨fr, hp, tk, pd⟩ xs)) hp) (evs ⟨fr, hp, tk, pd⟩ xs)) ∧ next (put d (.clo f [] (strips (frzL (bids (evs ⟨fr, hp, tk, pd⟩ xs)) hp) (evs ⟨fr, hp, tk, pd⟩ xs))) ⟨fr, frzL (bids (evs ⟨fr, hp, tk, pd⟩ xs)) hp, tk, pd⟩)) := rfl
def WSliceF (sz : Nat) (x : AV) (lo hi mx : Option AV) (d : Option Nat) (next : AS → Prop) (σ : AS) : Prop :=
 match x with
 | .sl sz' es _ => match lo0 lo, hi0 es.length hi, hi0 es.length mx with
  | .int l, .int h, .int m => (sz' = sz ∧ 0 ≤ l ∧ l ≤ h ∧ h ≤ es.length ∧ m = h) ∧ next (put d (.sl sz ((es.take h.toNat).drop l.toNat) .full) σ)
  | _, _, _ => False
 | _ => False
theorem w1_sliceF {sz : Nat} {x : VO} {lo hi mx : Option VO} : W1 P d (.sliceF sz x lo hi mx) next σ = WSliceF sz (ev σ x) (evo σ lo) (evo σ hi) (evo σ mx) d next σ := by
 simp only [W1, vcond, vval, vnext, opt_lo, opt_hi]
 generalize ev σ x = v
 cases v <;> simp only [WSliceF, false_and]
 rename_i sz' es m
 generalize lo0 (evo σ lo) = u
 generalize hi0 es.length (evo σ hi) = u'
 generalize hi0 es.length (evo σ mx) = u''
 cases u <;> cases u' <;> cases u'' <;> simp only [false_and, AV.toInt]
theorem wsliceF_all {sz : Nat} {es : List AV} {m : VM} : WSliceF sz (.sl sz es m) none (some (.int es.length)) (some (.int es.length)) d next σ = next (put d (.sl sz es .full) σ) := by simp [WSliceF, lo0, hi0]
def WSliceA (len sz : Nat) (ag : Bool) (x : AV) (lo hi : Option AV) (d : Option Nat) (next : AS → Prop) (σ : AS) : Prop :=
 match x with
 | .ptr b o => match lo0 lo, hi0 len hi with
  | .int l, .int h => (0 ≤ l ∧ l ≤ h ∧ h ≤ len ∧ l < len) ∧ next (put d (.bsl b (o + l.toNat * sz) sz (h.toNat - l.toNat) ag) σ)
  | _, _ => False
 | _ => False
theorem w1_sliceA {n sz : Nat} {ag : Bool} {x : VO} {lo hi : Option VO} : W1 P d (.sliceA n sz ag x lo hi) next σ = WSliceA n sz ag (ev σ x) (evo σ lo) (evo σ hi) d next σ := by
 simp only [W1, vcond, vval, vnext, opt_lo, opt_hi]
 generalize ev σ x = v
 cases v <;> simp only [WSliceA, false_and]
 generalize lo0 (evo σ lo) = u
 generalize hi0 n (evo σ hi) = u'
 cases u <;> cases u' <;> simp only [false_and, AV.toInt]
theorem wsliceA_h {len sz b o : Nat} {ag : Bool} {h : Int} (hc : 0 ≤ h ∧ h ≤ len ∧ 0 < len) : WSliceA len sz ag (.ptr b o) none (some (.int h)) d next σ = next (put d (.bsl b o sz h.toNat ag) σ) := by simp [WSliceA, lo0, hi0, hc]
theorem wsliceA_n {len sz b o : Nat} {ag : Bool} (hc : 0 < len) : WSliceA len sz ag (.ptr b o) none none d next σ = next (put d (.bsl b o sz len ag) σ) := by
 have : (0 : Int) < len := by omega
 simp [WSliceA, lo0, hi0, hc]
theorem wload_ref1 {n sz off : Nat} {ag : Bool} {x : AV} {avs : List Nat} (h : off + n ≤ sz) : WLoad n ag (.ref sz [x] 0 off) avs d next σ = next (put d (chunk ag n x.cells off) σ) := by simp [WLoad, h]
theorem w1_call {f : FuncId} {xs : List VO} {fr : List (Nat × AV)} {hp : List (Nat × BX)} {tk : List (Nat × Nat)} {pd : Option Ex} : W1 P d (.call f xs) next ⟨fr, hp, tk, pd⟩ =
  (noUnd (strips (frzL (bids (evs ⟨fr, hp, tk, pd⟩ xs)) hp) (evs ⟨fr, hp, tk, pd⟩ xs)) ∧ WCall P f (strips (frzL (bids (evs ⟨fr, hp, tk, pd⟩ xs)) hp) (evs ⟨fr, hp, tk, pd⟩ xs)) d next ⟨fr, frzL (bids (evs ⟨fr, hp, tk, pd⟩ xs)) hp, tk, pd⟩) := rfl
theorem w1_callv {x : VO} {xs : List VO} {fr : List (Nat × AV)} {hp : List (Nat × BX)} {tk : List (Nat × Nat)} {pd : Option Ex} : W1 P d (.callv x xs) next ⟨fr, hp, tk, pd⟩ =
  (noUnd (strips (frzL (bids (evs ⟨fr, hp, tk, pd⟩ xs)) hp) (evs ⟨fr, hp, tk, pd⟩ xs)) ∧ WCallv P (ev ⟨fr, hp, tk, pd⟩ x) (strips (frzL (bids (evs ⟨fr, hp, tk, pd⟩ xs)) hp) (evs ⟨fr, hp, tk, pd⟩ xs)) d next ⟨fr, frzL (bids (evs ⟨fr, hp, tk, pd⟩ xs)) hp, tk, pd⟩) := rfl
theorem inS_tupw {τ : AS} {cs : List AV} : inScope τ (.tupw cs) = scopes2 τ cs := rfl
theorem scopes2_nil {τ : AS} : scopes2 τ [] = True := rfl
theorem scopes2_cons {τ : AS} {v : AV} {r : List AV} : scopes2 τ (v :: r) = (inScope2 τ v ∧ scopes2 τ r) := rfl
theorem inS2_own {τ : AS} {sz k : Nat} {l : List AV} : inScope2 τ (.sl sz l (.own k)) = ((getT τ.tk k).isSome = true) := rfl
theorem inS2_gsl {τ : AS} {b i v sz n : Nat} {ag : Bool} : inScope2 τ (.gsl b i v sz n ag) = inScope1 τ (.gsl b i v sz n ag) := rfl
theorem inS2_bsl {τ : AS} {b off sz n : Nat} {ag : Bool} : inScope2 τ (.bsl b off sz n ag) = inScope1 τ (.bsl b off sz n ag) := rfl
theorem inS2_int {τ : AS} {n : Int} : inScope2 τ (.int n) = True := rfl
theorem inS2_bool {τ : AS} {n : Bool} : inScope2 τ (.bool n) = True := rfl
theorem w1_callb {f : FuncId} {xs : List VO} {avs : List Nat} {fr : List (Nat × AV)} {hp : List (Nat × BX)} {tk : List (Nat × Nat)} {pd : Option Ex} : W1 P d (.callb f xs avs) next ⟨fr, hp, tk, pd⟩ =
  (noUnd (strips (frzL (bids (evs ⟨fr, hp, tk, pd⟩ xs)) hp) (evs ⟨fr, hp, tk, pd⟩ xs)) ∧ WCallb P f (strips (frzL (bids (evs ⟨fr, hp, tk, pd⟩ xs)) hp) (evs ⟨fr, hp, tk, pd⟩ xs)) d next ⟨fr, hp, tk, pd⟩) := rfl
def WMmake (P : Env) (_ : TypeId) (n : Nat) (d : Option Nat) (next : AS → Prop) (fr : FrL) (hp : HpL) (tk : TkL) (pd : Option Ex) : Prop := pd = none ∧ P.T = none ∧ ∀ l, next (put d (.mpr l) ⟨fr, hp, tk, some (.mp l n [])⟩)
theorem w1_mmake {t : TypeId} {n : Nat} {fr : List (Nat × AV)} {hp : List (Nat × BX)} {tk : List (Nat × Nat)} {pd : Option Ex} : W1 P d (.mmake t n) next ⟨fr, hp, tk, pd⟩ = WMmake P t n d next fr hp tk pd := rfl
theorem wmmake {Pr : Program} {X : List FrL} {rd : Bool} {t : TypeId} {n : Nat} {fr : FrL} {hp : HpL} {tk : TkL} (_ : MKey Pr t n) (hn : ∀ l, next (put d (.mpr l) ⟨fr, hp, tk, some (.mp l n [])⟩)) : WMmake ⟨Pr, X, none, rd⟩ t n d next fr hp tk none := ⟨rfl, rfl, hn⟩
theorem wmmakeX {Pr : Program} {X : List FrL} {rd : Bool} {t : TypeId} {n : Nat} {fr : FrL} {hp : HpL} {tk : TkL} (hn : ∀ l, next (put d (.mpr l) ⟨fr, hp, tk, some (.mp l n [])⟩)) : WMmake ⟨Pr, X, none, rd⟩ t n d next fr hp tk none := ⟨rfl, rfl, hn⟩
def WMlook (P : Env) (t : TypeId) (pd : Option Ex) (x k : AV) (d : Option Nat) (next : AS → Prop) (σ : AS) : Prop :=
 ∃ l n kv xs, pd = some (.mp l n kv) ∧ x = .mpr l ∧ k = .agg (xs.map .int) ∧ xs.length = n ∧ (∀ y ∈ xs, inR y) ∧ MKey P.P t n ∧ next (put d (.int (kvget kv xs)) σ)
theorem w1_mlook {t : TypeId} {x k : VO} {fr : List (Nat × AV)} {hp : List (Nat × BX)} {tk : List (Nat × Nat)} {pd : Option Ex} : W1 P d (.mlook t x k) next ⟨fr, hp, tk, pd⟩ = WMlook P t pd (ev ⟨fr, hp, tk, pd⟩ x) (ev ⟨fr, hp, tk, pd⟩ k) d next ⟨fr, hp, tk, pd⟩ := rfl
theorem wmlook {t : TypeId} {l n : Nat} {kv : List (List Int × Int)} {xs : List Int} (hM : MKey P.P t n) (hx : xs.length = n) (hr : ∀ y ∈ xs, inR y) (hn : next (put d (.int (kvget kv xs)) σ)) : WMlook P t (some (.mp l n kv)) (.mpr l) (.agg (xs.map .int)) d next σ :=
 ⟨l, n, kv, xs, rfl, rfl, rfl, hx, hr, hM, hn⟩
def WCallS (P : Env) (f : FuncId) (args : List AV) (b : Nat) (bs : List (Nat × Nat × BX)) (d : Option Nat) (next : AS → Prop) (fr : FrL) (hp : HpL) (tk : TkL) (pd : Option Ex) : Prop := ∃ r, CtrS P.P f args r (gsB b bs) ∧ next (put d r ⟨fr, gsB b bs ++ hp, tk, pd⟩)
def WCallT (P : Env) (f : FuncId) (i : Nat) (xs : List AV) (d : Option Nat) (next : AS → Prop) (σ : AS) : Prop :=
 ∃ cs rest r, xs = .aggw cs :: rest ∧ bids rest = [] ∧ noUnd (strips [] rest) ∧ cs[i]? = some r ∧ CtrT P.P f i cs.length (strips [] rest) ∧ next (put d r σ)
theorem w1_callt {f : FuncId} {i : Nat} {xs : List VO} : W1 P d (.callt f i xs) next σ = WCallT P f i (evs σ xs) d next σ := rfl
theorem w1_calls {f : FuncId} {b : Nat} {xs : List VO} {bs : List (Nat × Nat × BX)} {fr : List (Nat × AV)} {hp : List (Nat × BX)} {tk : List (Nat × Nat)} {pd : Option Ex} : W1 P d (.calls f b xs bs) next ⟨fr, hp, tk, pd⟩ =
  (bids (evs ⟨fr, hp, tk, pd⟩ xs) = [] ∧ noUnd (strips [] (evs ⟨fr, hp, tk, pd⟩ xs)) ∧ (∀ p ∈ bs, getB hp (V.K b p.1 p.2.1) = none) ∧ WCallS P f (strips [] (evs ⟨fr, hp, tk, pd⟩ xs)) b bs d next fr hp tk pd) := rfl
theorem w1_mkm {f : FuncId} {xs : List VO} {fr : List (Nat × AV)} {hp : List (Nat × BX)} {tk : List (Nat × Nat)} {pd : Option Ex} : W1 P d (.mkm f xs) next ⟨fr, hp, tk, pd⟩ = (allOk (strips (frzL (bids (evs ⟨fr, hp, tk, pd⟩ xs)) hp) (evs ⟨fr, hp, tk, pd⟩ xs)) ∧ next (put d (.clo f (strips (frzL (bids (evs ⟨fr, hp, tk, pd⟩ xs)) hp) (evs ⟨fr, hp, tk, pd⟩ xs)) []) ⟨fr, frzL (bids (evs ⟨fr, hp, tk, pd⟩ xs)) hp, tk, pd⟩)) := rfl
theorem w1_callL {f : FuncId} {xs : List VO} {bs : List Nat} {fr : List (Nat × AV)} {hp : List (Nat × BX)} {tk : List (Nat × Nat)} {pd : Option Ex} : W1 P d (.callL f xs bs) next ⟨fr, hp, tk, pd⟩ =
  (noUnd (strips (frzL bs hp) (evs ⟨fr, hp, tk, pd⟩ xs)) ∧ WCallb P f (strips (frzL bs hp) (evs ⟨fr, hp, tk, pd⟩ xs)) d next ⟨fr, hp, tk, pd⟩) := rfl
theorem wcall {f : FuncId} {args : List AV} {r : AV} (h : Ctr P.P f args r) (hn : next (put d r σ)) : WCall P f args d next σ := ⟨r, h, hn⟩
theorem wcallv_clo {f : FuncId} {a b args : List AV} : WCallv P (.clo f a b) args d next σ = WCall P f (a ++ args ++ b) d next σ := rfl
theorem wp_loop' {Pr : Program} {T : Option (Nat × YT)} {rd : Bool} {c : VC} (ι : Type) (st : ι → AS) (I : ι → Prop) (μ : ι → Nat) (x₀ : ι) (h1 : I x₀) (h2 : leS σ (st x₀)) (h3 : ∀ x, I x → WP ⟨Pr, [], T, rd⟩ c (Lp [] st I μ x Q) (st x)) : WP ⟨Pr, [], T, rd⟩ (.loop c) Q σ :=
 ⟨ι, st, I, μ, x₀, [], h1, h2, trivial, h3⟩
theorem wp_loopF {Pr : Program} {T : Option (Nat × YT)} {rd : Bool} {c : VC} (bs : List Nat) (ι : Type) (st : ι → AS) (I : ι → Prop) (μ : ι → Nat) (x₀ : ι) (h1 : I x₀) (h2 : leS (frzS bs σ) (st x₀)) (h3 : ∀ x, I x → WP ⟨Pr, [], T, rd⟩ c (Lp [] st I μ x Q) (st x)) : WP ⟨Pr, [], T, rd⟩ (.loop c) Q σ :=
 ⟨ι, st, I, μ, x₀, bs, h1, h2, trivial, h3⟩
theorem wp_loopX {Pr : Program} {f : FrL} {X : List FrL} {T : Option (Nat × YT)} {rd : Bool} {c : VC} (ι : Type) (st : ι → AS) (I : ι → Prop) (μ : ι → Nat) (x₀ : ι) (h1 : I x₀) (h2 : leS σ (st x₀)) (hx : ∀ x, leX (st x) (f :: X))
  (h3 : ∀ x, I x → WP ⟨Pr, f :: X, T, rd⟩ c (Lp (f :: X) st I μ x Q) (st x)) : WP ⟨Pr, f :: X, T, rd⟩ (.loop c) Q σ :=
 ⟨ι, st, I, μ, x₀, [], h1, h2, hx _, h3⟩
theorem wp_loopY {Pr : Program} {X : List FrL} {T : Option (Nat × YT)} {rd : Bool} {c : VC} (ι : Type) (st : ι → AS) (I : ι → Prop) (μ : ι → Nat) (x₀ : ι) (h1 : I x₀) (h2 : leS σ (st x₀)) (hx : ∀ x, leX (st x) X)
  (h3 : ∀ x, I x → WP ⟨Pr, X, T, rd⟩ c (Lp X st I μ x Q) (st x)) : WP ⟨Pr, X, T, rd⟩ (.loop c) Q σ :=
 ⟨ι, st, I, μ, x₀, [], h1, h2, hx _, h3⟩
theorem lpy_norm {ι : Type} {X : List FrL} {st : ι → AS} {I : ι → Prop} {μ : ι → Nat} {x : ι} (hx : ∀ x, leX (st x) X) (h : ∃ y, I y ∧ μ y < μ x ∧ leS σ (st y)) : Lp X st I μ x Q .norm σ := by
 obtain ⟨y, h1, h2, h3⟩ := h
 cases X with
 | nil => exact ⟨y, h1, h2, h3⟩
 | cons f X => exact ⟨y, h1, h2, h3, hx y⟩
theorem lpx_norm {ι : Type} {f : FrL} {X : List FrL} {st : ι → AS} {I : ι → Prop} {μ : ι → Nat} {x : ι} (h : ∃ y, I y ∧ μ y < μ x ∧ leS σ (st y) ∧ leX (st y) (f :: X)) : Lp (f :: X) st I μ x Q .norm σ := h
def WCallI (P : Env) (f : FuncId) (args : List AV) (d : Option Nat) (next : AS → Prop) (fr : FrL) (hp : HpL) (tk : TkL) (pd : Option Ex) : Prop :=
 CSem { P with X := fr :: P.X, rd := false } f args hp tk pd fun r hp' tk' pd' => next (put d r ⟨fr, hp', tk', pd'⟩)
theorem w1_calli {f : FuncId} {xs : List VO} {fr : List (Nat × AV)} {hp : List (Nat × BX)} {tk : List (Nat × Nat)} {pd : Option Ex} : W1 P d (.calli f xs) next ⟨fr, hp, tk, pd⟩ =
  WCallI P f (evs ⟨fr, hp, tk, pd⟩ xs) d next fr hp tk pd := rfl
def WCallW (P : Env) (v : AV) (args : List AV) (d : Option Nat) (next : AS → Prop) (fr : FrL) (hp : HpL) (tk : TkL) (pd : Option Ex) : Prop :=
 match v with
 | .clw f first caps => WCallI P f (first ++ args ++ caps) d next fr hp tk pd
 | .clo f first caps => WCallI P f (first ++ args ++ caps) d next fr hp tk pd
 | _ => False
theorem w1_callw {x : VO} {xs : List VO} {fr : List (Nat × AV)} {hp : List (Nat × BX)} {tk : List (Nat × Nat)} {pd : Option Ex} : W1 P d (.callw x xs) next ⟨fr, hp, tk, pd⟩ =
  WCallW P (ev ⟨fr, hp, tk, pd⟩ x) (evs ⟨fr, hp, tk, pd⟩ xs) d next fr hp tk pd := by
 show (match ev ⟨fr, hp, tk, pd⟩ x with | .clw f first caps => _ | .clo f first caps => _ | _ => False) = _
 generalize ev ⟨fr, hp, tk, pd⟩ x = v
 cases v <;> rfl
theorem wcallw_clw {f : FuncId} {first caps args : List AV} {fr : FrL} {hp : HpL} {tk : TkL} {pd : Option Ex} : WCallW P (.clw f first caps) args d next fr hp tk pd = WCallI P f (first ++ args ++ caps) d next fr hp tk pd := rfl
theorem wcallw_clo {f : FuncId} {first caps args : List AV} {fr : FrL} {hp : HpL} {tk : TkL} {pd : Option Ex} : WCallW P (.clo f first caps) args d next fr hp tk pd = WCallI P f (first ++ args ++ caps) d next fr hp tk pd := rfl
theorem wcalli {Pr : Program} {X : List FrL} {T : Option (Nat × YT)} {rd : Bool} {f : FuncId} {args : List AV} {fr : FrL} {hp : HpL} {tk : TkL} {pd : Option Ex} {Q' : AV → HpL → TkL → Option Ex → Prop} (h : CSem ⟨Pr, fr :: X, T, false⟩ f args hp tk pd Q')
  (hn : ∀ r hp' tk' pd', Q' r hp' tk' pd' → next (put d r ⟨fr, hp', tk', pd'⟩)) : WCallI ⟨Pr, X, T, rd⟩ f args d next fr hp tk pd :=
 CSem.mono (E := ⟨Pr, fr :: X, T, false⟩) h hn
theorem wcall_in {Pr : Program} {X : List FrL} {T : Option (Nat × YT)} {rd : Bool} (hmix : Pr.follows .mixedOrders = true) {f : FuncId} {fn : Func} {args : List AV} {n : Nat} {rs : List ResultVar} {vc : VC} {fr : FrL} {hp : HpL} {tk : TkL} {pd : Option Ex}
  (hf : Pr.funcs[f]? = some fn) (hm : fmatch Pr fn n rs vc = true) (hn : args.length = n) (h : WP ⟨Pr, fr :: X, T, false⟩ vc (FinI Pr rs fun r hp' tk' pd' => next (put d r ⟨fr, hp', tk', pd'⟩)) ⟨args0 0 args, hp, tk, pd⟩) :
  WCallI ⟨Pr, X, T, rd⟩ f args d next fr hp tk pd :=
 csem_of_wp (E := ⟨Pr, fr :: X, T, false⟩) hmix hf hm hn rfl h
def WYield (P : Env) (v : AV) (args : List AV) (d : Option Nat) (next : AS → Prop) (fr : FrL) (hp : HpL) (tk : TkL) (pd : Option Ex) : Prop :=
 match v with
 | .yld l => P.rd = false ∧ ∃ T, P.T = some (l, T) ∧ pd = none ∧ T (fr :: P.X) args hp tk fun b hp' tk' pd' => next (put d (.bool b) ⟨fr, hp', tk', pd'⟩)
 | _ => False
theorem w1_yield {x : VO} {xs : List VO} {fr : List (Nat × AV)} {hp : List (Nat × BX)} {tk : List (Nat × Nat)} {pd : Option Ex} : W1 P d (.yield x xs) next ⟨fr, hp, tk, pd⟩ =
  WYield P (ev ⟨fr, hp, tk, pd⟩ x) (evs ⟨fr, hp, tk, pd⟩ xs) d next fr hp tk pd := by
 show (match ev ⟨fr, hp, tk, pd⟩ x with | .yld l => _ | _ => False) = _
 generalize ev ⟨fr, hp, tk, pd⟩ x = v
 cases v <;> rfl
theorem wyield {Pr : Program} {X : List FrL} {T : YT} {l : Nat} {args : List AV} {fr : FrL} {hp : HpL} {tk : TkL} (h : T (fr :: X) args hp tk fun b hp' tk' pd' => next (put d (.bool b) ⟨fr, hp', tk', pd'⟩)) :
  WYield ⟨Pr, X, some (l, T), false⟩ (.yld l) args d next fr hp tk none := ⟨rfl, T, rfl, rfl, h⟩
theorem w1_mkw {f : FuncId} {xs : List VO} {fr : List (Nat × AV)} {hp : List (Nat × BX)} {tk : List (Nat × Nat)} {pd : Option Ex} : W1 P d (.mkw f xs) next ⟨fr, hp, tk, pd⟩ =
  (allW (evs ⟨fr, hp, tk, pd⟩ xs) ∧ next (put d (.clw f [] (evs ⟨fr, hp, tk, pd⟩ xs)) ⟨fr, hp, tk, pd⟩)) := rfl
def RgQ (Q : Ex → AS → Prop) (fr : FrL) (hp : HpL) (tk : TkL) : Option Ex → Prop
 | none => Q .norm ⟨fr, hp, tk, none⟩
 | some (.mp _ _ _) => False
 | some e => Q e ⟨fr, hp, tk, none⟩
def WRange (P : Env) (v : AV) (ps : List Nat) (a b : VC) (Q : Ex → AS → Prop) (fr : FrL) (hp : HpL) (tk : TkL) (pd : Option Ex) : Prop :=
 P.rd = false ∧ P.T = none ∧ pd = none ∧ ∃ f first caps, (v = .clo f first caps ∨ v = .clw f first caps) ∧
  ∀ (l : Nat) (T : YT), (∀ Xa vals hp tk post, vals.length = ps.length → WP ⟨P.P, Xa, none, true⟩ a (Then (WP ⟨P.P, Xa, none, true⟩ b (BodyQ post)) (fun _ _ => False)) ⟨putL ps vals fr, hp, tk, none⟩ → T Xa vals hp tk post) →
   CSem ⟨P.P, fr :: P.X, some (l, T), false⟩ f (first ++ [.yld l] ++ caps) hp tk none fun _ hp' tk' pd' => RgQ Q fr hp' tk' pd'
theorem wp_range' {x : VO} {ps : List Nat} {a b : VC} {fr : FrL} {hp : HpL} {tk : TkL} {pd : Option Ex} (h : WRange P (ev ⟨fr, hp, tk, pd⟩ x) ps a b Q fr hp tk pd) : WP P (.range x ps a b) Q ⟨fr, hp, tk, pd⟩ := by
 obtain ⟨h1, h2, rfl, f, first, caps, h4, h5⟩ := h
 refine ⟨h1, h2, rfl, fun l => ?_⟩
 have hc := h5 l (fun Xa vals hp tk post => vals.length = ps.length ∧ WP ⟨P.P, Xa, none, true⟩ a (Then (WP ⟨P.P, Xa, none, true⟩ b (BodyQ post)) (fun _ _ => False)) ⟨putL ps vals fr, hp, tk, none⟩) (fun _ _ _ _ _ q1 q2 => ⟨q1, q2⟩)
 have hc' := hc.mono (Q' := fun _ hp' tk' pd' => match pd' with
           | none => Q .norm ⟨fr, hp', tk', none⟩
           | some (.mp _ _ _) => False
           | some e => Q e ⟨fr, hp', tk', none⟩) (fun r hp' tk' pd' q => by
            cases pd' with
            | none => exact q
            | some e => cases e <;> exact q)
 rcases h4 with h4 | h4
 ·simp only [h4]
  exact hc'
 ·simp only [h4]
  exact hc'
theorem wrange {Pr : Program} {X : List FrL} {f : FuncId} {first caps : List AV} {ps : List Nat} {a b : VC} {fr : FrL} {hp : HpL} {tk : TkL}
  (h : ∀ (l : Nat) (T : YT), (∀ Xa vals hp tk post, vals.length = ps.length → WP ⟨Pr, Xa, none, true⟩ a (Then (WP ⟨Pr, Xa, none, true⟩ b (BodyQ post)) (fun _ _ => False)) ⟨putL ps vals fr, hp, tk, none⟩ → T Xa vals hp tk post) →
   CSem ⟨Pr, fr :: X, some (l, T), false⟩ f (first ++ [.yld l] ++ caps) hp tk none fun _ hp' tk' pd' => RgQ Q fr hp' tk' pd') : WRange ⟨Pr, X, none, false⟩ (.clo f first caps) ps a b Q fr hp tk none :=
 ⟨rfl, rfl, rfl, f, first, caps, .inl rfl, h⟩
theorem wrangew {Pr : Program} {X : List FrL} {f : FuncId} {first caps : List AV} {ps : List Nat} {a b : VC} {fr : FrL} {hp : HpL} {tk : TkL}
  (h : ∀ (l : Nat) (T : YT), (∀ Xa vals hp tk post, vals.length = ps.length → WP ⟨Pr, Xa, none, true⟩ a (Then (WP ⟨Pr, Xa, none, true⟩ b (BodyQ post)) (fun _ _ => False)) ⟨putL ps vals fr, hp, tk, none⟩ → T Xa vals hp tk post) →
   CSem ⟨Pr, fr :: X, some (l, T), false⟩ f (first ++ [.yld l] ++ caps) hp tk none fun _ hp' tk' pd' => RgQ Q fr hp' tk' pd') : WRange ⟨Pr, X, none, false⟩ (.clw f first caps) ps a b Q fr hp tk none :=
 ⟨rfl, rfl, rfl, f, first, caps, .inr rfl, h⟩
def WBump (P : Env) (t : TypeId) (x : AV) (k : VOp) (ds : List Nat) (ks : Option (List Nat)) (Q : Ex → AS → Prop) (fr : FrL) (hp : HpL) (tk : TkL) (pd : Option Ex) : Prop :=
 P.T = none ∧ ∃ l n kv xs, pd = some (.mp l n kv) ∧ x = .mpr l ∧ (vcond k ⟨fr, hp, tk, pd⟩ ∧ dcond k ⟨fr, hp, tk, pd⟩) ∧ vval k ⟨fr, hp, tk, pd⟩ = .agg (xs.map .int) ∧ xs.length = n ∧ (∀ y ∈ xs, inR y) ∧ MKey P.P t n ∧
  Kp ks (Q .norm) ⟨undL ds fr, hp, tk, some (.mp l n (kvset kv xs (w64 (kvget kv xs + 1))))⟩
theorem wp_mbump {t : TypeId} {xm : VO} {k : VOp} {ds : List Nat} {ks : Option (List Nat)} {fr : FrL} {hp : HpL} {tk : TkL} {pd : Option Ex} : WP P (.mbump t xm k ds ks) Q ⟨fr, hp, tk, pd⟩ = WBump P t (ev ⟨fr, hp, tk, pd⟩ xm) k ds ks Q fr hp tk pd := rfl
theorem wbump {Pr : Program} {Xa : List FrL} {rd : Bool} {t : TypeId} {l n : Nat} {kv : List (List Int × Int)} {xs : List Int} {k : VOp} {ds : List Nat} {ks : Option (List Nat)} {fr : FrL} {hp : HpL} {tk : TkL} (hM : MKey Pr t n) (hl : isLd k = true)
  (hk : WD ⟨Pr, Xa, none, rd⟩ true (some 0) k (fun τ => get τ.fr 0 = .agg (xs.map .int)) ⟨fr, hp, tk, some (.mp l n kv)⟩) (hx : xs.length = n) (hr : ∀ y ∈ xs, inR y)
  (hn : Kp ks (Q .norm) ⟨undL ds fr, hp, tk, some (.mp l n (kvset kv xs (w64 (kvget kv xs + 1))))⟩) : WBump ⟨Pr, Xa, none, rd⟩ t (.mpr l) k ds ks Q fr hp tk (some (.mp l n kv)) := by
 have h1 : dcond k ⟨fr, hp, tk, some (.mp l n kv)⟩ ∧ vcond k ⟨fr, hp, tk, some (.mp l n kv)⟩ ∧ vval k ⟨fr, hp, tk, some (.mp l n kv)⟩ = .agg (xs.map .int) := by
  obtain ⟨hd, hw⟩ := hk
  cases k <;> first | (simp [isLd] at hl; done) | skip
  all_goals
   refine ⟨hd, hw.1, ?_⟩
   have := hw.2
   simpa [put, get] using this
 exact ⟨rfl, l, n, kv, xs, rfl, rfl, ⟨h1.2.1, h1.1⟩, h1.2.2, hx, hr, hM, hn⟩
theorem undL_nil {fr : FrL} : undL [] fr = fr := rfl
theorem undL_cons {d : Nat} {ds : List Nat} {fr : FrL} : undL (d :: ds) fr = (d, .und) :: undL ds fr := rfl
theorem bodyQ_norm {post : Bool → HpL → TkL → Option Ex → Prop} {fr : FrL} {hp : HpL} {tk : TkL} {pd : Option Ex} : BodyQ post .norm ⟨fr, hp, tk, pd⟩ = post true hp tk none := rfl
theorem bodyQ_ret {post : Bool → HpL → TkL → Option Ex → Prop} {fr : FrL} {hp : HpL} {tk : TkL} {pd : Option Ex} : BodyQ post .ret ⟨fr, hp, tk, pd⟩ = post false hp tk (some .ret) := rfl
theorem bodyQ_exit {post : Bool → HpL → TkL → Option Ex → Prop} {fr : FrL} {hp : HpL} {tk : TkL} {pd : Option Ex} {i : Nat} : BodyQ post (.exit i) ⟨fr, hp, tk, pd⟩ = post false hp tk (some (.exit i)) := rfl
theorem rgq_none {fr : FrL} {hp : HpL} {tk : TkL} : RgQ Q fr hp tk none = Q .norm ⟨fr, hp, tk, none⟩ := rfl
theorem rgq_some {fr : FrL} {hp : HpL} {tk : TkL} {i : Nat} : RgQ Q fr hp tk (some (.exit i)) = Q (.exit i) ⟨fr, hp, tk, none⟩ := rfl
theorem rgq_ret {fr : FrL} {hp : HpL} {tk : TkL} : RgQ Q fr hp tk (some .ret) = Q .ret ⟨fr, hp, tk, none⟩ := rfl
theorem putL_nil {vs : List AV} {fr : FrL} : putL [] vs fr = fr := by cases vs <;> rfl
theorem putL_cons {p : Nat} {ps : List Nat} {v : AV} {vs : List AV} {fr : FrL} : putL (p :: ps) (v :: vs) fr = putL ps vs ((p, v) :: fr) := rfl
theorem fini_0n {Pr : Program} {Qr : AV → HpL → TkL → Option Ex → Prop} {fr : FrL} {hp : HpL} {tk : TkL} {pd : Option Ex} : FinI Pr [] Qr .norm ⟨fr, hp, tk, pd⟩ = Qr (.tup []) hp tk pd := by
 show (noUnd [] ∧ Qr (tup1 []) _ _ _) = _
 simp only [noUnd, true_and]
 rfl
theorem fini_0r {Pr : Program} {Qr : AV → HpL → TkL → Option Ex → Prop} {fr : FrL} {hp : HpL} {tk : TkL} {pd : Option Ex} : FinI Pr [] Qr .ret ⟨fr, hp, tk, pd⟩ = Qr (.tup []) hp tk pd := by
 show (noUnd [] ∧ Qr (tup1 []) _ _ _) = _
 simp only [noUnd, true_and]
 rfl
theorem fini_1n {Pr : Program} {Qr : AV → HpL → TkL → Option Ex → Prop} {fr : FrL} {hp : HpL} {tk : TkL} {pd : Option Ex} {t : Nat} : FinI Pr [.tmp t] Qr .norm ⟨fr, hp, tk, pd⟩ = Qr (get fr t) hp tk pd := rfl
theorem fini_1r {Pr : Program} {Qr : AV → HpL → TkL → Option Ex → Prop} {fr : FrL} {hp : HpL} {tk : TkL} {pd : Option Ex} {t : Nat} : FinI Pr [.tmp t] Qr .ret ⟨fr, hp, tk, pd⟩ = Qr (get fr t) hp tk pd := rfl
def WOutC (P : Program) (v : AV) (ty : TypeId) (Qr : AV → HpL → TkL → Option Ex → Prop) (hp : HpL) (tk : TkL) (pd : Option Ex) : Prop :=
 match v with
 | .ptr b 0 => match getB hp b with
  | some bx => match aggOf P ty with
   | some true => szOf P ty = some bx.cells.length ∧ Qr (.aggw (bx.cells.map AV.shr)) hp tk pd
   | some false => match bx.cells with
    | [x] => Qr x hp tk pd
    | _ => False
   | none => False
  | none => False
 | _ => False
theorem outW_spec {Pr : Program} {Qr : AV → HpL → TkL → Option Ex → Prop} {fr : FrL} {hp : HpL} {tk : TkL} {pd : Option Ex} {t : Nat} {ty : TypeId} :
  (match outW Pr ⟨fr, hp, tk, pd⟩ t ty with | some r => Qr r hp tk pd | none => False) = WOutC Pr (get fr t) ty Qr hp tk pd := by
 unfold outW WOutC
 simp only
 generalize get fr t = v
 cases v with
 | ptr b off =>
  cases off with
  | succ o => rfl
  | zero =>
   simp only
   cases getB hp b with
   | none => rfl
   | some bx =>
    simp only
    cases aggOf Pr ty with
    | none => rfl
    | some g =>
     cases g with
     | true =>
      simp only
      by_cases h : szOf Pr ty = some bx.cells.length
      ·simp [h]
      ·simp [h]
     | false =>
      simp only
      obtain ⟨cells, fz⟩ := bx
      match cells with
      | [] => rfl
      | [x] => rfl
      | _ :: _ :: _ => rfl
 | _ => rfl
theorem fini_cn {Pr : Program} {Qr : AV → HpL → TkL → Option Ex → Prop} {fr : FrL} {hp : HpL} {tk : TkL} {pd : Option Ex} {t : Nat} {ty : TypeId} : FinI Pr [.cell t ty] Qr .norm ⟨fr, hp, tk, pd⟩ = WOutC Pr (get fr t) ty Qr hp tk pd := outW_spec
theorem fini_cr {Pr : Program} {Qr : AV → HpL → TkL → Option Ex → Prop} {fr : FrL} {hp : HpL} {tk : TkL} {pd : Option Ex} {t : Nat} {ty : TypeId} : FinI Pr [.cell t ty] Qr .ret ⟨fr, hp, tk, pd⟩ = WOutC Pr (get fr t) ty Qr hp tk pd := outW_spec
theorem leS_mk {fr fr' : List (Nat × AV)} {hp hp' : List (Nat × BX)} {tk tk' : List (Nat × Nat)} {pd pd' : Option Ex} : leS ⟨fr, hp, tk, pd⟩ ⟨fr', hp', tk', pd'⟩ = (leFr ⟨fr', hp', tk', pd'⟩ fr fr' ∧ leHp ⟨fr', hp', tk', pd'⟩ hp hp' ∧ leTk ⟨fr', hp', tk', pd'⟩ tk tk' ∧ pd = pd') := rfl
theorem leFr_nil {τ : AS} {fr : List (Nat × AV)} : leFr τ fr [] = True := rfl
theorem leFr_cons {τ : AS} {fr r : List (Nat × AV)} {t : Nat} {v : AV} : leFr τ fr ((t, v) :: r) = (leV (get fr t) v ∧ inScope τ v ∧ leFr τ fr r) := rfl
theorem leHp_nil {τ : AS} {hp : List (Nat × BX)} : leHp τ hp [] = True := rfl
theorem leHp_cons {τ : AS} {hp r : List (Nat × BX)} {b : Nat} {x : BX} : leHp τ hp ((b, x) :: r) = (getB hp b = some x ∧ scopes τ x.cells ∧ leHp τ hp r) := rfl
theorem leTk_nil {τ : AS} {tk : List (Nat × Nat)} {pd : Option Ex} : leTk τ tk [] = True := rfl
theorem leTk_cons {τ : AS} {tk r : List (Nat × Nat)} {k n : Nat} : leTk τ tk ((k, n) :: r) = (getT tk k = some n ∧ leTk τ tk r) := rfl
theorem leV_refl {v : AV} : leV v v = True := by
 unfold leV
 split <;> simp
theorem leV_und {v : AV} : leV v .und = True := by
 unfold leV
 split <;> first | rfl | simp_all
theorem leV_int {a b : Int} : leV (.int a) (.int b) = (a = b) := by simp [leV]
theorem leV_un {a b : BitVec 64} : leV (.un a) (.un b) = (a = b) := by simp [leV]
theorem leV_bool {a b : Bool} : leV (.bool a) (.bool b) = (a = b) := by simp [leV]
theorem leV_agg {a b : List AV} : leV (.agg a) (.agg b) = (a = b) := by simp [leV]
theorem leV_sh {sz sz' : Nat} {a b : List AV} {m : VM} : leV (.sl sz a m) (.sl sz' b .sh) = (sz = sz' ∧ a = b) := rfl
theorem leV_own {sz sz' k k' : Nat} {a b : List AV} : leV (.sl sz a (.own k)) (.sl sz' b (.own k')) = (sz = sz' ∧ a = b ∧ k = k') := by simp [leV]
theorem inS_int {τ : AS} {n : Int} : inScope τ (.int n) = True := rfl
theorem inS_bool {τ : AS} {n : Bool} : inScope τ (.bool n) = True := rfl
theorem inS_un {τ : AS} {n : BitVec 64} : inScope τ (.un n) = True := rfl
theorem inS_und {τ : AS} : inScope τ .und = True := rfl
theorem inS_nul {τ : AS} : inScope τ .nul = True := rfl
theorem inS_agg {τ : AS} {l : List AV} : inScope τ (.agg l) = True := rfl
theorem inS_tup {τ : AS} {l : List AV} : inScope τ (.tup l) = True := rfl
theorem inS_ref {τ : AS} {sz i off : Nat} {l : List AV} : inScope τ (.ref sz l i off) = True := rfl
theorem inS_clo {τ : AS} {f : FuncId} {l l' : List AV} : inScope τ (.clo f l l') = True := rfl
theorem inS_clw {τ : AS} {f : FuncId} {l l' : List AV} : inScope τ (.clw f l l') = (scopes1 τ l ∧ scopes1 τ l') := rfl
theorem inS_yld {τ : AS} {l : Nat} : inScope τ (.yld l) = True := rfl
theorem scopes1_nil {τ : AS} : scopes1 τ [] = True := rfl
theorem scopes1_cons {τ : AS} {v : AV} {r : List AV} : scopes1 τ (v :: r) = (inScope1 τ v ∧ scopes1 τ r) := rfl
theorem inS1_ptr {fr : List (Nat × AV)} {hp : List (Nat × BX)} {tk : List (Nat × Nat)} {pd : Option Ex} {b off : Nat} : inScope1 ⟨fr, hp, tk, pd⟩ (.ptr b off) = ((getB hp b).isSome = true) := rfl
theorem inS1_gsl {fr : List (Nat × AV)} {hp : List (Nat × BX)} {tk : List (Nat × Nat)} {pd : Option Ex} {b i v sz n : Nat} {ag : Bool} : inScope1 ⟨fr, hp, tk, pd⟩ (.gsl b i v sz n ag) = ((getB hp (V.K b i v)).isSome = true) := rfl
theorem inS_gsl {fr : List (Nat × AV)} {hp : List (Nat × BX)} {tk : List (Nat × Nat)} {pd : Option Ex} {b i v sz n : Nat} {ag : Bool} : inScope ⟨fr, hp, tk, pd⟩ (.gsl b i v sz n ag) = ((getB hp (V.K b i v)).isSome = true) := rfl
theorem inS_aggw {τ : AS} {l : List AV} : inScope τ (.aggw l) = scopes1 τ l := rfl
theorem inS_lsl {τ : AS} {sz n : Nat} {l : List AV} : inScope τ (.lsl sz n l) = scopes1 τ l := rfl
theorem inS1_sl {τ : AS} {sz : Nat} {l : List AV} {m : VM} : inScope1 τ (.sl sz l m) = True := rfl
theorem inS1_und {τ : AS} : inScope1 τ .und = True := rfl
theorem okw_gsl {b i v sz n : Nat} {ag : Bool} : (AV.gsl b i v sz n ag).okw = true := rfl
@[simp] theorem cells_gsl {b i v sz n : Nat} {ag : Bool} : (AV.gsl b i v sz n ag).cells = [.gsl b i v sz n ag] := rfl
@[simp] theorem cells_aggw {l : List AV} : (AV.aggw l).cells = l := rfl
theorem okv_gsl {b i v sz n : Nat} {ag : Bool} : (AV.gsl b i v sz n ag).okv = true := rfl
theorem okv_aggw {l : List AV} : (AV.aggw l).okv = true := rfl
theorem inS1_bsl {fr : List (Nat × AV)} {hp : List (Nat × BX)} {tk : List (Nat × Nat)} {pd : Option Ex} {b off sz n : Nat} {ag : Bool} : inScope1 ⟨fr, hp, tk, pd⟩ (.bsl b off sz n ag) = ((getB hp b).isSome = true) := rfl
theorem inS1_int {τ : AS} {n : Int} : inScope1 τ (.int n) = True := rfl
theorem inS1_bool {τ : AS} {n : Bool} : inScope1 τ (.bool n) = True := rfl
theorem inS1_un {τ : AS} {n : BitVec 64} : inScope1 τ (.un n) = True := rfl
theorem inS1_yld {τ : AS} {n : Nat} : inScope1 τ (.yld n) = True := rfl
theorem inS1_clo {τ : AS} {f : FuncId} {l l' : List AV} : inScope1 τ (.clo f l l') = True := rfl
theorem inS1_ref {τ : AS} {sz i off : Nat} {l : List AV} : inScope1 τ (.ref sz l i off) = True := rfl
theorem leX_nil {τ : AS} : leX τ [] = True := rfl
theorem leX_cons {τ : AS} {f : FrL} {r : List FrL} : leX τ (f :: r) = (scopesFr τ f ∧ leX τ r) := rfl
theorem scopesFr_nil {τ : AS} : scopesFr τ [] = True := rfl
theorem scopesFr_cons {τ : AS} {t : Nat} {v : AV} {r : FrL} : scopesFr τ ((t, v) :: r) = (inScope τ v ∧ scopesFr τ r) := rfl
theorem allW_nil : allW [] = True := rfl
theorem allW_cons {v : AV} {r : List AV} : allW (v :: r) = (v.okw = true ∧ allW r) := rfl
theorem okw_ptr {b off : Nat} : (AV.ptr b off).okw = true := rfl
theorem okw_bsl {b off sz n : Nat} {ag : Bool} : (AV.bsl b off sz n ag).okw = true := rfl
theorem okw_int {n : Int} : (AV.int n).okw = true := rfl
theorem okw_bool {n : Bool} : (AV.bool n).okw = true := rfl
theorem okw_clo {f : FuncId} {l l' : List AV} : (AV.clo f l l').okw = true := rfl
theorem okw_ref {sz i off : Nat} {l : List AV} : (AV.ref sz l i off).okw = true := rfl
theorem okw_yld {n : Nat} : (AV.yld n).okw = true := rfl
theorem inS_sh {τ : AS} {sz : Nat} {l : List AV} : inScope τ (.sl sz l .sh) = True := rfl
theorem inS_full {τ : AS} {sz : Nat} {l : List AV} : inScope τ (.sl sz l .full) = True := rfl
theorem inS_own {fr : List (Nat × AV)} {hp : List (Nat × BX)} {tk : List (Nat × Nat)} {pd : Option Ex} {sz k : Nat} {l : List AV} : inScope ⟨fr, hp, tk, pd⟩ (.sl sz l (.own k)) = ((getT tk k).isSome = true) := rfl
theorem inS_ptr {fr : List (Nat × AV)} {hp : List (Nat × BX)} {tk : List (Nat × Nat)} {pd : Option Ex} {b off : Nat} : inScope ⟨fr, hp, tk, pd⟩ (.ptr b off) = ((getB hp b).isSome = true) := rfl
theorem inS_bsl {fr : List (Nat × AV)} {hp : List (Nat × BX)} {tk : List (Nat × Nat)} {pd : Option Ex} {b off sz n : Nat} {ag : Bool} : inScope ⟨fr, hp, tk, pd⟩ (.bsl b off sz n ag) = ((getB hp b).isSome = true) := rfl
theorem scopes_nil {τ : AS} : scopes τ [] = True := rfl
theorem scopes_cons {τ : AS} {v : AV} {r : List AV} : scopes τ (v :: r) = (inScope τ v ∧ scopes τ r) := rfl
theorem chunk_one {x : AV} {off : Nat} : chunk false 1 [x] 0 = x := rfl
@[simp] theorem cells_int {n : Int} : (AV.int n).cells = [.int n] := rfl
@[simp] theorem cells_bool {n : Bool} : (AV.bool n).cells = [.bool n] := rfl
@[simp] theorem cells_un {n : BitVec 64} : (AV.un n).cells = [.un n] := rfl
@[simp] theorem cells_agg {l : List AV} : (AV.agg l).cells = l := rfl
@[simp] theorem cells_sl {sz : Nat} {l : List AV} {m : VM} : (AV.sl sz l m).cells = [.sl sz l m] := rfl
@[simp] theorem cells_clo {f : FuncId} {a b : List AV} : (AV.clo f a b).cells = [.clo f a b] := rfl
@[simp] theorem cells_clw {f : FuncId} {a b : List AV} : (AV.clw f a b).cells = [.clw f a b] := rfl
@[simp] theorem cells_yld {n : Nat} : (AV.yld n).cells = [.yld n] := rfl
@[simp] theorem cells_ptr {b off : Nat} : (AV.ptr b off).cells = [.ptr b off] := rfl
@[simp] theorem cells_bsl {b off sz n : Nat} {ag : Bool} : (AV.bsl b off sz n ag).cells = [.bsl b off sz n ag] := rfl
@[simp] theorem cells_und : AV.und.cells = [.und] := rfl
theorem chunk_ag {n off : Nat} {l : List AV} : chunk true n l off = .agg ((l.drop off).take n) := rfl
theorem chunk_1 {n off : Nat} {l : List AV} : chunk false n l off = l[off]?.getD .und := rfl
theorem w64_eq (n : Int) : w64 n = if (true && decide (n % (18446744073709551616 : Int) ≥ (9223372036854775808 : Int))) = true then n % 18446744073709551616 - 18446744073709551616 else n % 18446744073709551616 := rfl
theorem w64_id {n : Int} (h : -9223372036854775808 ≤ n ∧ n ≤ 9223372036854775807) : w64 n = n := by
 obtain ⟨h1, h2⟩ := h
 rw [w64_eq]
 simp only [Bool.true_and, decide_eq_true_eq]
 split <;> omega
end
end Go.V

set_option linter.unusedSimpArgs false
set_option linter.unusedVariables false
set_option linter.unnecessarySimpa false
namespace Go.V
open Go Go.RowKit
section
variable {P : Program} {hp : List (Nat × BX)}
theorem strip_int {n : Int} : strip hp (.int n) = .int n := rfl
theorem strip_bool {n : Bool} : strip hp (.bool n) = .bool n := rfl
theorem strip_un {n : BitVec 64} : strip hp (.un n) = .un n := rfl
theorem strip_agg {l : List AV} : strip hp (.agg l) = .agg l := rfl
theorem strip_tup {l : List AV} : strip hp (.tup l) = .tup l := rfl
theorem strip_und : strip hp .und = .und := rfl
theorem strip_nul : strip hp .nul = .nul := rfl
theorem strip_ref {sz i off : Nat} {l : List AV} : strip hp (.ref sz l i off) = .ref sz l i off := rfl
theorem strip_clo {f : FuncId} {a b : List AV} : strip hp (.clo f a b) = .clo f a b := rfl
theorem strip_sl {sz : Nat} {l : List AV} {m : VM} : strip hp (.sl sz l m) = .sl sz l .sh := rfl
theorem strip_clw {f : FuncId} {a b : List AV} : strip hp (.clw f a b) = .und := rfl
theorem strip_yld {n : Nat} : strip hp (.yld n) = .yld n := rfl
theorem bid_clw {f : FuncId} {a b : List AV} : (AV.clw f a b).bid = [] := rfl
theorem bid_yld {n : Nat} : (AV.yld n).bid = [] := rfl
theorem isUnd_yld {n : Nat} : (AV.yld n).isUnd = false := rfl
theorem isUnd_clw {f : FuncId} {a b : List AV} : (AV.clw f a b).isUnd = false := rfl
theorem okv_clw {f : FuncId} {a b : List AV} : (AV.clw f a b).okv = true := rfl
theorem okv_yld {n : Nat} : (AV.yld n).okv = true := rfl
theorem okv_bsl {b off sz n : Nat} {ag : Bool} : (AV.bsl b off sz n ag).okv = true := rfl
theorem strip_ptr {b off : Nat} : strip hp (.ptr b off) = (match getB hp b with
  | some ⟨cells, true⟩ => .ref cells.length [.agg cells] 0 off
  | _ => .und) := rfl
theorem strip_bsl {b off sz n : Nat} {ag : Bool} : strip hp (.bsl b off sz n ag) = (match getB hp b with
  | some ⟨cells, true⟩ => if off + n * sz ≤ cells.length ∧ (ag = true ∨ sz = 1) then .sl sz (chunks ag sz cells off n) .sh else .und
  | _ => .und) := rfl
theorem strip_gsl {b i v sz n : Nat} {ag : Bool} : strip hp (.gsl b i v sz n ag) = (match getB hp (V.K b i v) with
  | some ⟨cells, true⟩ => if n * sz ≤ cells.length ∧ (ag = true ∨ sz = 1) then .sl sz (chunks ag sz cells 0 n) .sh else .und
  | _ => .und) := rfl
theorem strip_aggw {l : List AV} : strip hp (.aggw l) = .agg (l.map (strip1 hp)) := rfl
theorem strip_lsl {sz n : Nat} {l : List AV} : strip hp (.lsl sz n l) = .und := rfl
theorem strip1_int {n : Int} : strip1 hp (.int n) = .int n := rfl
theorem strip1_bool {n : Bool} : strip1 hp (.bool n) = .bool n := rfl
theorem strip1_un {n : BitVec 64} : strip1 hp (.un n) = .un n := rfl
theorem strip1_und : strip1 hp .und = .und := rfl
theorem strip1_ref {sz i off : Nat} {l : List AV} : strip1 hp (.ref sz l i off) = .ref sz l i off := rfl
theorem strip1_clo {f : FuncId} {a b : List AV} : strip1 hp (.clo f a b) = .clo f a b := rfl
theorem strip1_sl {sz : Nat} {l : List AV} {m : VM} : strip1 hp (.sl sz l m) = .sl sz l .sh := rfl
theorem strip1_ptr {b off : Nat} : strip1 hp (.ptr b off) = (match getB hp b with
  | some ⟨cells, true⟩ => .ref cells.length [.agg cells] 0 off
  | _ => .und) := rfl
theorem strip1_bsl {b off sz n : Nat} {ag : Bool} : strip1 hp (.bsl b off sz n ag) = (match getB hp b with
  | some ⟨cells, true⟩ => if off + n * sz ≤ cells.length ∧ (ag = true ∨ sz = 1) then .sl sz (chunks ag sz cells off n) .sh else .und
  | _ => .und) := rfl
theorem strip1_gsl {b i v sz n : Nat} {ag : Bool} : strip1 hp (.gsl b i v sz n ag) = (match getB hp (V.K b i v) with
  | some ⟨cells, true⟩ => if n * sz ≤ cells.length ∧ (ag = true ∨ sz = 1) then .sl sz (chunks ag sz cells 0 n) .sh else .und
  | _ => .und) := rfl
theorem bid_gsl {b i v sz n : Nat} {ag : Bool} : (AV.gsl b i v sz n ag).bid = [V.K b i v] := rfl
theorem bid_aggw {l : List AV} : (AV.aggw l).bid = l.flatMap AV.bid1 := rfl
theorem bid_lsl {sz n : Nat} {l : List AV} : (AV.lsl sz n l).bid = [] := rfl
theorem bid1_int {n : Int} : (AV.int n).bid1 = [] := rfl
theorem bid1_bool {n : Bool} : (AV.bool n).bid1 = [] := rfl
theorem bid1_un {n : BitVec 64} : (AV.un n).bid1 = [] := rfl
theorem bid1_und : AV.und.bid1 = [] := rfl
theorem bid1_ref {sz i off : Nat} {l : List AV} : (AV.ref sz l i off).bid1 = [] := rfl
theorem bid1_clo {f : FuncId} {a b : List AV} : (AV.clo f a b).bid1 = [] := rfl
theorem bid1_sl {sz : Nat} {l : List AV} {m : VM} : (AV.sl sz l m).bid1 = [] := rfl
theorem bid1_ptr {b off : Nat} : (AV.ptr b off).bid1 = [b] := rfl
theorem bid1_bsl {b off sz n : Nat} {ag : Bool} : (AV.bsl b off sz n ag).bid1 = [b] := rfl
theorem bid1_gsl {b i v sz n : Nat} {ag : Bool} : (AV.gsl b i v sz n ag).bid1 = [V.K b i v] := rfl
theorem isUnd_gsl {b i v sz n : Nat} {ag : Bool} : (AV.gsl b i v sz n ag).isUnd = false := rfl
theorem isUnd_aggw {l : List AV} : (AV.aggw l).isUnd = false := rfl
theorem bid_int {n : Int} : (AV.int n).bid = [] := rfl
theorem bid_bool {n : Bool} : (AV.bool n).bid = [] := rfl
theorem bid_un {n : BitVec 64} : (AV.un n).bid = [] := rfl
theorem bid_agg {l : List AV} : (AV.agg l).bid = [] := rfl
theorem bid_tup {l : List AV} : (AV.tup l).bid = [] := rfl
theorem bid_und : AV.und.bid = [] := rfl
theorem bid_nul : AV.nul.bid = [] := rfl
theorem bid_ref {sz i off : Nat} {l : List AV} : (AV.ref sz l i off).bid = [] := rfl
theorem bid_clo {f : FuncId} {a b : List AV} : (AV.clo f a b).bid = [] := rfl
theorem bid_sl {sz : Nat} {l : List AV} {m : VM} : (AV.sl sz l m).bid = [] := rfl
theorem bid_ptr {b off : Nat} : (AV.ptr b off).bid = [b] := rfl
theorem bid_bsl {b off sz n : Nat} {ag : Bool} : (AV.bsl b off sz n ag).bid = [b] := rfl
theorem bids_nil : bids [] = [] := rfl
theorem bids_cons {x : AV} {r : List AV} : bids (x :: r) = x.bid ++ bids r := rfl
theorem evs_nil {σ : AS} : evs σ [] = [] := rfl
theorem evs_cons {σ : AS} {x : VO} {r : List VO} : evs σ (x :: r) = ev σ x :: evs σ r := rfl
theorem strips_nil : strips hp [] = [] := rfl
theorem strips_cons {x : AV} {r : List AV} : strips hp (x :: r) = strip hp x :: strips hp r := rfl
theorem frzL_nil : frzL [] hp = hp := rfl
theorem frzL_cons {b : Nat} {r : List Nat} : frzL (b :: r) hp = frzL r (frz1 b hp) := rfl
theorem frzS_mk {bs : List Nat} {fr : List (Nat × AV)} {tk : List (Nat × Nat)} {pd : Option Ex} : frzS bs ⟨fr, hp, tk, pd⟩ = ⟨fr, frzL bs hp, tk, pd⟩ := rfl
theorem frz1_eq {b : Nat} : frz1 b hp = (match getB hp b with
 | some ⟨cells, false⟩ => setB b ⟨cells.map (strip hp), true⟩ hp
 | _ => hp) := rfl
theorem setB_nil {b : Nat} {x : BX} : setB b x [] = [(b, x)] := rfl
theorem setB_cons {b c : Nat} {x y : BX} {r : List (Nat × BX)} : setB b x ((c, y) :: r) = if c = b then (b, x) :: r else (c, y) :: setB b x r := rfl
theorem setT_nil {b : Nat} {x : Nat} : setT b x [] = [(b, x)] := rfl
theorem setT_cons {b c : Nat} {x y : Nat} {r : List (Nat × Nat)} : setT b x ((c, y) :: r) = if c = b then (b, x) :: r else (c, y) :: setT b x r := rfl
theorem noUnd_nil : noUnd [] = True := rfl
theorem noUnd_cons {x : AV} {r : List AV} : noUnd (x :: r) = (x.isUnd = false ∧ noUnd r) := rfl
theorem isUnd_int {n : Int} : (AV.int n).isUnd = false := rfl
theorem isUnd_bool {n : Bool} : (AV.bool n).isUnd = false := rfl
theorem isUnd_un {n : BitVec 64} : (AV.un n).isUnd = false := rfl
theorem isUnd_agg {l : List AV} : (AV.agg l).isUnd = false := rfl
theorem isUnd_tup {l : List AV} : (AV.tup l).isUnd = false := rfl
theorem isUnd_ref {sz i off : Nat} {l : List AV} : (AV.ref sz l i off).isUnd = false := rfl
theorem isUnd_clo {f : FuncId} {a b : List AV} : (AV.clo f a b).isUnd = false := rfl
theorem isUnd_sl {sz : Nat} {l : List AV} {m : VM} : (AV.sl sz l m).isUnd = false := rfl
theorem isUnd_nul : AV.nul.isUnd = false := rfl
theorem okv_int {n : Int} : (AV.int n).okv = true := rfl
theorem okv_bool {n : Bool} : (AV.bool n).okv = true := rfl
theorem okv_un {n : BitVec 64} : (AV.un n).okv = true := rfl
theorem okv_agg {l : List AV} : (AV.agg l).okv = true := rfl
theorem okv_sl {sz : Nat} {l : List AV} {m : VM} : (AV.sl sz l m).okv = true := rfl
theorem okv_ref {sz i off : Nat} {l : List AV} : (AV.ref sz l i off).okv = true := rfl
theorem okv_clo {f : FuncId} {a b : List AV} : (AV.clo f a b).okv = true := rfl
theorem okv_ptr {b off : Nat} : (AV.ptr b off).okv = true := rfl
theorem allOk_nil : allOk [] = True := rfl
theorem allOk_cons {x : AV} {r : List AV} : allOk (x :: r) = (x.okv = true ∧ allOk r) := rfl
theorem allSz_nil {n : Nat} : allSz n [] = True := rfl
theorem allSz_cons {n : Nat} {x : AV} {r : List AV} : allSz n (x :: r) = (x.cells.length = n ∧ allSz n r) := rfl
theorem fin_norm {rs : List ResultVar} {res : AV} {σ : AS} : Fin P rs res .norm σ = (noUnd (outs P (frzS (outIds σ rs) σ) rs) ∧ tup1 (outs P (frzS (outIds σ rs) σ) rs) = res) := rfl
theorem fin_ret {rs : List ResultVar} {res : AV} {σ : AS} : Fin P rs res .ret σ = (noUnd (outs P (frzS (outIds σ rs) σ) rs) ∧ tup1 (outs P (frzS (outIds σ rs) σ) rs) = res) := rfl
theorem outs_nil {σ : AS} : outs P σ [] = [] := rfl
theorem outs_tmp {fr : List (Nat × AV)} {tk : List (Nat × Nat)} {pd : Option Ex} {t : Nat} {r : List ResultVar} : outs P ⟨fr, hp, tk, pd⟩ (.tmp t :: r) = strip hp (get fr t) :: outs P ⟨fr, hp, tk, pd⟩ r := rfl
theorem outs_cell {fr : List (Nat × AV)} {tk : List (Nat × Nat)} {pd : Option Ex} {t : Nat} {ty : TypeId} {r : List ResultVar} : outs P ⟨fr, hp, tk, pd⟩ (.cell t ty :: r) = out1 P ⟨fr, hp, tk, pd⟩ (.cell t ty) :: outs P ⟨fr, hp, tk, pd⟩ r := rfl
theorem outIds_nil {σ : AS} : outIds σ [] = [] := rfl
theorem outIds_tmp {fr : List (Nat × AV)} {tk : List (Nat × Nat)} {pd : Option Ex} {t : Nat} {r : List ResultVar} : outIds ⟨fr, hp, tk, pd⟩ (.tmp t :: r) = (get fr t).bid ++ outIds ⟨fr, hp, tk, pd⟩ r := rfl
theorem outIds_cell {fr : List (Nat × AV)} {tk : List (Nat × Nat)} {pd : Option Ex} {t : Nat} {ty : TypeId} {r : List ResultVar} : outIds ⟨fr, hp, tk, pd⟩ (.cell t ty :: r) = (match get fr t with
     | .ptr b _ => match getB hp b with
      | some bx => bids bx.cells ++ [b]
      | none => []
     | _ => []) ++ outIds ⟨fr, hp, tk, pd⟩ r := rfl
theorem tup1_1 {x : AV} : tup1 [x] = x := rfl
theorem tup1_0 : tup1 [] = .tup [] := rfl
theorem tup1_2 {x y : AV} {r : List AV} : tup1 (x :: y :: r) = .tup (x :: y :: r) := rfl
theorem setAt_0 {cells vs : List AV} : setAt cells 0 vs = vs ++ cells.drop vs.length := by cases cells <;> rfl
theorem setAt_s {n : Nat} {c : AV} {cells vs : List AV} : setAt (c :: cells) (n + 1) vs = c :: setAt cells n vs := rfl
theorem fillV_nil {σ : AS} {cells : List AV} : fillV hp σ cells [] = cells := rfl
theorem fillV_cons {σ : AS} {cells : List AV} {off n : Nat} {x : VO} {r : List (Nat × Nat × VO)} : fillV hp σ cells ((off, n, x) :: r) = fillV hp σ (setAt cells off (strip hp (ev σ x)).cells) r := rfl
theorem fillOk_nil {σ : AS} {n : Nat} : fillOk hp σ n [] = True := rfl
theorem fillOk_cons {σ : AS} {k off n : Nat} {x : VO} {r : List (Nat × Nat × VO)} : fillOk hp σ k ((off, n, x) :: r) = ((strip hp (ev σ x)).okv = true ∧ (strip hp (ev σ x)).cells.length = n ∧ off + n ≤ k ∧ fillOk hp σ k r) := rfl
theorem not_dec {p : Prop} [Decidable p] : (!decide p) = decide (¬ p) := by by_cases h : p <;> simp [h]
theorem toNat_add {a b : Nat} : ((a : Int) + (b : Int)).toNat = a + b := by omega
theorem toNat_add1 {a : Nat} : ((a : Int) + 1).toNat = a + 1 := by omega
theorem nmem_cons {a b : Nat} {l : List Nat} : (¬ a ∈ b :: l) = (¬ a = b ∧ ¬ a ∈ l) := by simp
theorem beq_dec {a b : Int} : (a == b) = decide (a = b) := by by_cases h : a = b <;> simp [h]
theorem bne_dec {a b : Int} : (a != b) = decide (a ≠ b) := by by_cases h : a = b <;> simp [h]
end
attribute [go_sem] decide_true decide_false not_true_eq_false wcond_true wcond_false wp_skip' wp_ret' wp_exit' wp_ops' wp_seq' wp_cond' wp_block' wp_scope' then_norm then_exit then_ret blk_norm blk_ret blk_exit lp_exit lp_ret kp_some
 keepL_nil keepL_cons get_cons get_nil getB_cons getB_nil getT_cons getT_nil put_some put_none ev_t ev_k wops_nil wops_cons wops_consg wgd_tt wgd_ff wgd_tf wgd_ft wgd_nul wd_false
 wd_true w1_mov w1_nils w1_alloc w1_box w1_bin wbin_add wbin_sub wbin_mul wbin_quo wbin_rem wbin_lss wbin_leq wbin_gtr wbin_geq wbin_eql wbin_neq wbin_beq wbin_bne wbin_shr wbin_shl wbin_band wbin_bor wbin_equ wbin_subu wbin_neu w1_not wnot
 w1_neg wneg w1_pick wpick w1_len wlen_sl wlen_bsl w1_min wmin w1_max wmax w1_max3 wmax3 wbin_seq2 wbin_sne2 w1_ext wext_0 wext_1 wext_2 wext_3 w1_fld wfld_ptr wfld_ref w1_nile wnile_ne w1_nilck wnilck_ptr wnilck_ref wnilck_clo
 w1_idx widx_sl widx_bsl w1_idxA widxA_ptr widxA_ref w1_fieldV wfieldV w1_indexV w1_load wload_emb wload_ref1 wsliceF_all w1_sliceA wsliceA_h wsliceA_n wload_ptr w1_store wstore_ptr wstoreb wloadb_ag wloadb_1 w1_makes wmakes w1_make0 wmake0 w1_app wapp_own wapp_full
 w1_slice wslice_lh wslice_l wslice_h wslice_n w1_sliceF w1_sliceA w1_build w1_bslice w1_mkf w1_call w1_callv wcallv_clo leS_mk leFr_nil leFr_cons leHp_nil leHp_cons leTk_nil
 leTk_cons leV_refl leV_und leV_int leV_bool leV_un leV_agg leV_sh leV_own inS_int inS_bool inS_un inS_und inS_nul inS_agg inS_tup inS_ref inS_clo inS_sh inS_full inS_own inS_ptr inS_bsl
 scopes_nil scopes_cons chunk_one cells_int cells_bool cells_un cells_agg cells_sl cells_clo cells_und chunk_ag chunk_1 w64_id
attribute [go_sem] strip_int strip_bool strip_un strip_agg strip_tup strip_und strip_nul strip_ref strip_clo strip_sl strip_ptr strip_bsl bid_int bid_bool bid_un bid_agg bid_tup bid_und bid_nul bid_ref bid_clo
 bid_sl bid_ptr bid_bsl bids_nil bids_cons evs_nil evs_cons strips_nil strips_cons frzL_nil frzL_cons frzS_mk frz1_eq setB_nil setB_cons setT_nil setT_cons noUnd_nil noUnd_cons
 isUnd_int isUnd_bool isUnd_un isUnd_agg isUnd_tup isUnd_ref isUnd_clo isUnd_sl isUnd_nul okv_int okv_bool okv_un okv_agg okv_sl okv_ref okv_clo okv_ptr allOk_nil allOk_cons allSz_nil allSz_cons
 fin_norm fin_ret outs_nil outs_tmp outs_cell outIds_nil outIds_tmp outIds_cell tup1_1 tup1_0 tup1_2 setAt_s fillV_nil fillV_cons fillOk_nil fillOk_cons not_dec beq_dec
 bne_dec
attribute [go_sem] vcond vnext dcond V.start V.args0 evo List.length_map List.length_append List.append_nil List.nil_append List.cons_append List.map_cons List.map_nil List.drop_zero
 List.drop_succ_cons List.drop_nil List.take_succ_cons List.take_zero List.take_nil List.length_cons List.length_nil List.getElem?_cons_zero List.getElem?_cons_succ Option.getD_some
 Int.toNat_natCast Int.natCast_nonneg Int.toNat_zero Int.zero_add Nat.zero_add Nat.add_zero Bool.not_true Bool.not_false beq_self_eq_true List.not_mem_nil not_false_eq_true
 Option.some.injEq or_true true_or or_false false_or true_and and_true Bool.false_eq_true Option.isSome_some BX.mk.injEq if_true if_false
attribute [go_sem] windexV tmod_cast tdiv_cast toNat_add toNat_add1 false_implies implies_true
attribute [go_sem] Bool.true_and Bool.false_and Bool.and_true Bool.and_false Bool.true_or Bool.false_or Bool.or_true Bool.or_false Nat.mul_one Nat.zero_mul
attribute [go_sem] nmem_cons strip_clw strip_yld bid_clw bid_yld isUnd_yld isUnd_clw okv_clw okv_yld okv_bsl w1_calli w1_callb w1_callL wp_opsB2 w1_mkm w1_callw wcallw_clw wcallw_clo w1_yield w1_mkw bodyQ_norm bodyQ_ret bodyQ_exit rgq_none rgq_some rgq_ret w1_mmake w1_mlook wp_mbump undL_nil undL_cons putL_nil putL_cons fini_0n fini_0r fini_1n fini_1r inS_clw inS_yld scopes1_nil scopes1_cons inS1_ptr inS1_bsl
 inS1_int inS1_bool inS1_un inS1_yld inS1_clo inS1_ref leX_nil leX_cons scopesFr_nil scopesFr_cons allW_nil allW_cons okw_ptr okw_bsl okw_int okw_bool okw_clo okw_ref okw_yld cells_clw cells_yld cells_ptr cells_bsl
attribute [go_sem] strip_gsl strip_aggw strip_lsl strip1_int strip1_bool strip1_un strip1_und strip1_ref strip1_clo strip1_sl strip1_ptr strip1_bsl strip1_gsl bid_gsl bid_aggw bid_lsl bid1_int bid1_bool bid1_un bid1_und bid1_ref bid1_clo bid1_sl bid1_ptr bid1_bsl bid1_gsl isUnd_gsl isUnd_aggw
 List.flatMap_nil List.flatMap_cons wlen_gsl widx_gsl wfieldV_w wfieldV_w1 avok w1_loadW wloadW_ptr wloadWb w1_nilsG dynI_none dynI_some dynN_int dynN_sl toInt_int yInfo_sl yInfo_lsl flat_nil flat_cons flatW_nil flatW_cons shr_int shr_bool shr_un shr_und shr_ptr shr_ref shr_bsl shr_gsl shr_sh shr_full shr_own shr_clo
 fillW_nil fillW_cons fillWOk_nil fillWOk_cons w1_bsliceW w1_buildW w1_appG wappG_gsl wappG_nil wappB nrm_mk tidyFr_nil tidyFr_cons tidyHp_nil tidyHp_cons tidy_int tidy_bool tidy_un tidy_und tidy_nul tidy_agg tidy_tup tidy_sl tidy_ref tidy_ptr tidy_clo tidy_clw tidy_yld tidy_lsl tidy_aggw tidy_bsl tidy_gsl
 tidy1_int tidy1_bool tidy1_un tidy1_und tidy1_sl tidy1_ref tidy1_ptr tidy1_clo tidy1_bsl tidy1_gsl ver_ne ver_ne' K_inj K_ne K_ne' inS_gsl inS_aggw inS_lsl inS1_gsl inS1_sl inS1_und okw_gsl cells_gsl cells_aggw okv_gsl okv_aggw and_self
attribute [go_sem] fini_cn fini_cr WOutC wextw_0 wextw_1 w1_cvu wcvu_int wcvu_un inS_tupw scopes2_nil scopes2_cons inS2_own inS2_gsl inS2_bsl inS2_int inS2_bool w1_callt w1_calls
attribute [go_sem low] setAt_0
end Go.V

set_option linter.unusedSimpArgs false
set_option linter.unusedVariables false
set_option linter.unnecessarySimpa false
namespace Go.V
open Go Go.RowKit
inductive TC where
 | int | bool
 | st (l : List TC)
 | sl (e : TC)
mutual
def TC.size : TC → Nat
 | .st l => TC.sizes l
 | _ => 1
def TC.sizes : List TC → Nat
 | [] => 0
 | c :: r => c.size + TC.sizes r
end
def TC.isSt : TC → Bool
 | .st _ => true
 | _ => false
mutual
def Ty : TC → List AV → Prop
 | .int, cs => ∃ n : Int, (-9223372036854775808 ≤ n ∧ n ≤ 9223372036854775807) ∧ cs = [.int n]
 | .bool, cs => ∃ b : Bool, cs = [.bool b]
 | .st l, cs => TyL l cs
 | .sl e, cs => ∃ es : List (List AV), cs = [.sl e.size (es.map fun x => if e.isSt then .agg x else x[0]?.getD .und) .sh] ∧ es.length < 9223372036854775808 ∧ ∀ x ∈ es, Ty e x
def TyL : List TC → List AV → Prop
 | [], cs => cs = []
 | c :: r, cs => ∃ a b, cs = a ++ b ∧ Ty c a ∧ TyL r b
end
mutual
def tcm (P : Program) : Nat → TypeId → TC → Bool
 | 0, _, _ => false
 | n + 1, t, tc =>
  match P.underlying t, tc with
  | some (.int .i64), .int => true
  | some .bool, .bool => true
  | some (.struct fs), .st l => tcfs P n fs.toList l 0 && P.cellsOf t == TC.sizes l
  | some (.slice e), .sl c => tcm P n e c && P.cellsOf e == c.size && c.size != 0
  | _, _ => false
def tcfs (P : Program) : Nat → List Field → List TC → Nat → Bool
 | _, [], [], _ => true
 | 0, _, _, _ => false
 | n + 1, f :: fs, c :: l, off => f.offset == off && P.cellsOf f.type == c.size && tcm P n f.type c && tcfs P n fs l (off + c.size)
 | _, _, _, _ => false
end
section
variable {P : Program} {H : Type} {enc : TypeId × Value → H} {w : World} {spare : Nat → Bool} {held : Bool}
def CAll (w : World) : Nat → Nat → Prop := fun b _ => b < w.heap.size
theorem cval_all (w : World) : CVal (CAll w) w := fun _ _ h => h
def RepCs (w : World) (cs : List Value) (avs : List AV) : Prop := avs.length = cs.length ∧ ∀ (j : Nat) (c : AV), avs[j]? = some c → c.isCell = true ∧ Rep0 (CAll w) w (cs[j]?.getD undef) c
theorem repCs_append {cs ds : List Value} {xs bs : List AV} (h : RepCs w cs xs) (k : RepCs w ds bs) : RepCs w (cs ++ ds) (xs ++ bs) := by
 refine ⟨by simp [h.1, k.1], fun j c hj => ?_⟩
 rcases Nat.lt_or_ge j xs.length with hl | hl
 ·rw [List.getElem?_append_left hl] at hj
  rw [List.getElem?_append_left (by rw [← h.1]; exact hl)]
  exact h.2 j c hj
 ·rw [List.getElem?_append_right hl] at hj
  rw [List.getElem?_append_right (by rw [← h.1]; exact hl), ← h.1]
  exact k.2 _ c hj
theorem repCs_one {v : Value} {c : AV} (hk : c.isCell = true) (h : Rep0 (CAll w) w v c) : RepCs w [v] [c] :=
 ⟨rfl, fun j d hj => by
  cases j with
  | zero => simp at hj; subst hj; exact ⟨hk, by simpa using h⟩
  | succ j => simp at hj⟩
theorem tyL_len : ∀ (l : List TC) (cs : List AV), (∀ c ∈ l, ∀ cs, Ty c cs → cs.length = c.size) → TyL l cs → cs.length = TC.sizes l
 | [], cs, _, h => by simp only [TyL] at h; subst h; rfl
 | c :: r, cs, hc, h => by
  simp only [TyL] at h
  obtain ⟨a, b, rfl, h1, h2⟩ := h
  rw [List.length_append, hc c (by simp) a h1, tyL_len r b (fun d hd => hc d (by simp [hd])) h2, TC.sizes]
theorem ty_len : ∀ (c : TC) (cs : List AV), Ty c cs → cs.length = c.size
 | .int, cs, h => by simp only [Ty] at h; obtain ⟨n, _, rfl⟩ := h; rfl
 | .bool, cs, h => by simp only [Ty] at h; obtain ⟨n, rfl⟩ := h; rfl
 | .sl e, cs, h => by simp only [Ty] at h; obtain ⟨n, rfl, _⟩ := h; rfl
 | .st l, cs, h => by
  simp only [Ty] at h
  rw [TC.size]
  exact tyL_len l cs (fun c hc cs h => ty_len c cs h) h
theorem spot_none {a : Addr} {v : Value} (h : w.cell? a = some v) : a.spot = none := by
 unfold World.cell? at h
 split at h
 ·split at h
  ·simp at h
  ·rename_i hs
   cases ha : a.spot with
   | none => rfl
   | some x => simp [ha] at hs
 ·simp at h
theorem cell_block {a : Addr} {v : Value} (h : w.cell? a = some v) : a.block < w.heap.size := by
 unfold World.cell? at h
 split at h
 ·rename_i hb
  exact (Array.getElem?_eq_some_iff.1 hb).1
 ·simp at h
theorem wf_i64 {n : Int} (h : (Lit.int .i64 n).wf = true) : -9223372036854775808 ≤ n ∧ n ≤ 9223372036854775807 := by
 simp [Lit.wf, IntKind.min, IntKind.max, IntKind.signed, IntKind.bits] at h
 omega
theorem trod_rep : ∀ (n : Nat) (g : Nat) (t : TypeId) (tc : TC) (cs : List Value) (x : DataW H × List MemPlace), tcm P g t tc = true → DataW.trod enc P w 0 spare held n t cs = some x →
  ∃ avs, RepCs w cs avs ∧ Ty tc avs := by
 intro n
 induction n with
 | zero => intro g t tc cs x _ h; simp [DataW.trod] at h
 | succ n ih =>
  intro g t tc cs x hm h
  cases g with
  | zero => simp [tcm] at hm
  | succ g =>
   unfold tcm at hm
   split at hm
   ·rename_i hu
    obtain ⟨k, rfl, _, hw⟩ := DataW.trod_int hu h
    exact ⟨[.int k], repCs_one rfl (.int k), by simp only [Ty]; exact ⟨k, wf_i64 hw, rfl⟩⟩
   ·rename_i hu
    obtain ⟨k, rfl, _⟩ := DataW.trod_bool hu h
    exact ⟨[.bool k], repCs_one rfl (.bool k), by simp only [Ty]; exact ⟨k, rfl⟩⟩
   ·rename_i fs l hu
    simp only [Bool.and_eq_true, beq_iff_eq] at hm
    obtain ⟨hm1, hm2⟩ := hm
    obtain ⟨xs, n', hn, _, hlen, hxl, hf⟩ := DataW.trod_struct hu h
    have hn' : n' = n := by omega
    subst hn'
    have key : ∀ (fsl : List Field) (l : List TC) (g off : Nat), tcfs P g fsl l off = true → (∀ f ∈ fsl, ∃ y, DataW.trod enc P w 0 spare held n' f.type ((cs.drop f.offset).take (P.cellsOf f.type)) = some y) → off + TC.sizes l ≤ cs.length →
      ∃ avs, RepCs w ((cs.drop off).take (TC.sizes l)) avs ∧ TyL l avs := by
     intro fsl
     induction fsl with
     | nil =>
      intro l g off h1 _ _
      cases l with
      | nil => exact ⟨[], ⟨by simp [TC.sizes], fun j c hj => by simp at hj⟩, by simp only [TyL]⟩
      | cons c r => cases g <;> simp [tcfs] at h1
     | cons f fsl ihf =>
      intro l g off h1 h2 h3
      cases l with
      | nil => cases g <;> simp [tcfs] at h1
      | cons c r =>
       cases g with
       | zero => simp [tcfs] at h1
       | succ g =>
        simp only [tcfs, Bool.and_eq_true, beq_iff_eq] at h1
        obtain ⟨⟨⟨e1, e2⟩, e3⟩, e4⟩ := h1
        obtain ⟨y, hy⟩ := h2 f (by simp)
        obtain ⟨a, ha1, ha2⟩ := ih g f.type c _ y e3 hy
        simp only [TC.sizes] at h3
        obtain ⟨b, hb1, hb2⟩ := ihf r g (off + c.size) e4 (fun f' hf' => h2 f' (by simp [hf'])) (by omega)
        refine ⟨a ++ b, ?_, by simp only [TyL]; exact ⟨a, b, rfl, ha2, hb2⟩⟩
        have : (cs.drop off).take (TC.sizes (c :: r)) = (cs.drop f.offset).take (P.cellsOf f.type) ++ (cs.drop (off + c.size)).take (TC.sizes r) := by
         rw [e1, e2, TC.sizes, List.take_add, List.drop_drop]
        rw [this]
        exact repCs_append ha1 hb1
    have hall : ∀ f ∈ fs.toList, ∃ y, DataW.trod enc P w 0 spare held n' f.type ((cs.drop f.offset).take (P.cellsOf f.type)) = some y := by
     intro f hff
     obtain ⟨i, hi⟩ := List.getElem?_of_mem hff
     have hi' : fs[i]? = some f := by simpa using hi
     have hlt : i < xs.length := by rw [hxl]; exact (Array.getElem?_eq_some_iff.1 hi').1
     rw [hf i f hi']
     exact ⟨xs[i], by simp [hlt]⟩
    obtain ⟨avs, h1, h2⟩ := key fs.toList l g 0 hm1 hall (by omega)
    refine ⟨avs, ?_, by simp only [Ty]; exact h2⟩
    rwa [List.drop_zero, List.take_of_length_le (by omega)] at h1
   ·rename_i e c hu
    simp only [Bool.and_eq_true, beq_iff_eq, bne_iff_ne] at hm
    obtain ⟨⟨hm1, hm2⟩, hm3⟩ := hm
    rcases DataW.trod_slice hu h with ⟨rfl, _⟩ | ⟨a, len, cap, elems, rest, n', hn, rfl, _, hb, hl, hcap, hel, hei, _, _⟩
    ·refine ⟨[.sl c.size [] .sh], repCs_one rfl (.sl0 _ _ _), ?_⟩
     simp only [Ty]
     exact ⟨[], rfl, by simp, fun x hx => by simp at hx⟩
    ·have hn' : n' = n := by omega
     subst hn'
     rw [hm2] at hei
     have hone : ∀ i, i < len → ∃ p : List Value × List AV, w.cells? 0 (a.add (i * c.size)) c.size = some p.1 ∧ RepCs w p.1 p.2 ∧ Ty c p.2 := by
      intro i hi
      have := hei i hi
      have hlt : i < elems.length := by omega
      rw [List.getElem?_eq_getElem hlt] at this
      obtain ⟨csi, h1, h2⟩ := Option.bind_eq_some_iff.1 this
      obtain ⟨avs, h3, h4⟩ := ih g e c csi _ hm1 h2
      exact ⟨(csi, avs), h1, h3, h4⟩
     obtain ⟨F, hF⟩ := Go.Deep.choose_lt hone
     have hlen2 : ((List.range len).map fun i => (F i).2).length = len := by simp
     have hty : Ty (.sl c) [.sl c.size (((List.range len).map fun i => (F i).2).map fun x => if c.isSt then .agg x else x[0]?.getD .und) .sh] := by
      simp only [Ty]
      refine ⟨_, rfl, by rw [hlen2]; have : maxLen = 9223372036854775807 := by decide
                         omega, fun x hx => ?_⟩
      obtain ⟨i, hi, rfl⟩ := List.mem_map.1 hx
      exact (hF i (List.mem_range.1 hi)).2.2
     refine ⟨_, repCs_one rfl ?_, hty⟩
     by_cases h0 : len = 0
     ·subst h0
      exact .sl0 _ _ _
     ·have hc0 := (World.cells?_some (hF 0 (by omega)).1).2.2 0 (by omega)
      have hl0 := (World.cells?_some (hF 0 (by omega)).1).2.1
      rw [List.getElem?_eq_getElem (by omega)] at hc0
      have hsp := spot_none hc0
      have hblk := cell_block hc0
      simp only [Addr.add, Nat.zero_mul, if_true] at hsp hblk
      obtain ⟨blk, o, sp⟩ := a
      simp only at hsp hblk
      subst hsp
      have hadd : ∀ o k, (⟨blk, o, none⟩ : Addr).add k = ⟨blk, o + k, none⟩ := by
       intro o k
       unfold Addr.add
       split
       ·rename_i hk; subst hk; rfl
       ·rfl
      have hget : ∀ (i : Nat) (e : AV), (((List.range len).map fun i => (F i).2).map fun x => if c.isSt then AV.agg x else x[0]?.getD .und)[i]? = some e → i < len ∧ e = (if c.isSt then AV.agg (F i).2 else (F i).2[0]?.getD .und) := by
       intro i e he
       have hlt := (List.getElem?_eq_some_iff.1 he).1
       simp only [List.length_map, List.length_range] at hlt
       simp only [List.getElem?_map, List.getElem?_range hlt, Option.map_some, Option.some.injEq] at he
       exact ⟨hlt, he.symm⟩
      have hcells : ∀ i, i < len → (if c.isSt then AV.agg (F i).2 else (F i).2[0]?.getD .und).cells = (F i).2 ∧ (if c.isSt then AV.agg (F i).2 else (F i).2[0]?.getD .und).isElem = true := by
       intro i hi
       obtain ⟨_, hr, hti⟩ := hF i hi
       by_cases hs : c.isSt = true
       ·rw [if_pos hs]; exact ⟨rfl, rfl⟩
       ·rw [if_neg hs]
        have hsz : c.size = 1 := by cases c <;> first | rfl | (simp [TC.isSt] at hs)
        have hl1 := ty_len c _ hti
        rw [hsz] at hl1
        match hF2 : (F i).2, hl1 with
        | [y], _ =>
         have hy := (hr.2 0 y (by rw [hF2]; rfl)).1
         simp only [List.getElem?_cons_zero, Option.getD_some]
         refine ⟨?_, ?_⟩
         ·cases y <;> first | rfl | (simp [AV.isCell] at hy)
         ·cases y <;> first | rfl | (simp [AV.isCell] at hy)
      have hFl : ∀ i, i < len → (F i).2.length = c.size := fun i hi => ty_len c _ (hF i hi).2.2
      refine .sl blk o len cap c.size _ (fun i j => ((F i).1[j]?.getD undef)) (by simp) hl ?_ ?_ ?_ ?_ ?_ ?_
      ·intro i e he
       obtain ⟨hi, rfl⟩ := hget i e he
       rw [(hcells i hi).1]; exact hFl i hi
      ·intro i e he
       obtain ⟨hi, rfl⟩ := hget i e he
       exact (hcells i hi).2
      ·intro i j _ _
       exact hblk
      ·intro i j hi hj
       have hi : i < len := by simpa using hi
       have hc := (World.cells?_some (hF i hi).1).2.2 j hj
       have hl2 := (World.cells?_some (hF i hi).1).2.1
       rw [hadd, hadd, List.getElem?_eq_getElem (by omega)] at hc
       rw [hc]
       simp [show j < (F i).1.length by omega]
      ·intro i e he j d hj
       obtain ⟨hi, rfl⟩ := hget i e he
       rw [(hcells i hi).1] at hj
       exact ((hF i hi).2.1.2 j d hj).1
      ·intro i e he j d hj
       obtain ⟨hi, rfl⟩ := hget i e he
       rw [(hcells i hi).1] at hj
       exact ((hF i hi).2.1.2 j d hj).2
   ·simp at hm
def TyV : TC → AV → Prop
 | .st l, av => ∃ cs, av = .agg cs ∧ TyL l cs
 | c, av => Ty c [av]
theorem trod_val {t : TypeId} {tc : TC} {v : Value} {d : DataW H} {p : List MemPlace} {r : Reach} {b0 g : Nat} (hm : tcm P g t tc = true) (hok : Value.okWide P w r b0 t v) (h : DataW.Trod enc P w 0 spare held t v d p) :
  ∃ av, Rep0 (CAll w) w v av ∧ TyV tc av := by
 obtain ⟨n, h⟩ := h
 obtain ⟨avs, h1, h2⟩ := trod_rep n g t tc _ _ hm h
 have one : v.cells = #[v] → tc.isSt = false → ∃ av, Rep0 (CAll w) w v av ∧ TyV tc av := by
  intro hv hs
  rw [hv] at h1
  have hl := h1.1
  match avs, hl with
  | [c], _ =>
   have := (h1.2 0 c rfl).2
   refine ⟨c, by simpa using this, ?_⟩
   cases tc <;> first | exact h2 | (simp [TC.isSt] at hs)
 cases tc with
 | st l =>
  cases g with
  | zero => simp [tcm] at hm
  | succ g =>
   unfold tcm at hm
   split at hm <;> first | (simp at hm; done) | skip
   all_goals (rename_i heq; first | (cases heq; done) | skip)
   rename_i fs l' hu
   unfold Value.okWide at hok
   rw [hu] at hok
   obtain ⟨cs, rfl, _, _⟩ := hok
   simp only [Ty] at h2
   refine ⟨.agg avs, .agg cs avs ?_ (fun j c hj => (h1.2 j c hj).1) (fun j c hj => ?_), ⟨avs, rfl, h2⟩⟩
   ·have := h1.1; simpa [Value.cells] using this.symm
   ·simpa [Value.cells] using (h1.2 j c hj).2
 | _ =>
  refine one ?_ rfl
  cases v <;> first | rfl | skip
  exfalso
  cases g with
  | zero => simp [tcm] at hm
  | succ g =>
   unfold tcm at hm
   unfold Value.okWide at hok
   split at hm <;> first | (simp at hm; done) | skip
   all_goals (rename_i hu heq; first | (cases heq; done) | (simp [hu, Cell.okWide, Cell.ok] at hok; done))
theorem calls_of_ctr {f : FuncId} {args : List AV} {vs : Array Value} (hc : Ctr P f args (.bool true)) (hr : Reps0 (CAll w) w vs args) (hg : GF (CAll w) w := by intro _ hx; cases hx) :
  Calls P f vs w fun e w' => e = .returned (.bool true) ∧ Below w.heap.size w w' :=
 (hc.2 (CAll w) w vs ⟨cval_all w, hg⟩ hr).mono fun e w' h => by
  obtain ⟨v, C', h1, h2, _, _, _, h3⟩ := h
  cases h3
  exact ⟨h1, h2⟩
theorem reps_list {vs : List Value} {avs : List AV} (h : vs.length = avs.length) (hk : ∀ (j : Nat) (v : Value) (a : AV), vs[j]? = some v → avs[j]? = some a → Rep0 (CAll w) w v a) : Reps0 (CAll w) w vs.toArray avs :=
 ⟨by simpa using h, fun j c hj => by
  have hlt : j < vs.length := by rw [h]; exact (List.getElem?_eq_some_iff.1 hj).1
  have := hk j vs[j] c (by simp [hlt]) hj
  simpa [hlt] using this⟩
end
end Go.V
