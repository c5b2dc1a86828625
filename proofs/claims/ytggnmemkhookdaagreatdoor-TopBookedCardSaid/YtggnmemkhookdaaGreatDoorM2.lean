/- Merged by program: V12, V12b, V13, V14, V15, V15b, V16, V17, V17b. -/
import Derived.Test.YtggnmemkhookdaaGreatDoorM1
set_option linter.unusedSimpArgs false
set_option linter.unusedVariables false
set_option linter.unnecessarySimpa false
namespace Go.V
open Go Go.RowKit
section
variable {P : Program}
theorem run_app_grow {t t' ty e e' : TypeId} {i : TypeInfo} {z : Value} (w : World) (ht : P.underlying t = some (.slice e)) (ht' : P.underlying t' = some (.slice e')) (hi : P.info? e = some i) (hz : i.zero = some z)
  {b : Option Addr} {sLen sCap : Nat} {by_ : Option Addr} {n cy : Nat} {olds news : List Value}
  (hfo : (Builtin.firstCells i.size sLen (.slice b sLen sCap)).run P w.drew = .ok olds.toArray w.drew) (hf : (Builtin.firstCells i.size n (.slice by_ n cy)).run P w.drew = .ok news.toArray w.drew)
  (hg : sCap < sLen + n) (h63 : ((sLen + n : Nat) : Int) ≤ 9223372036854775807) (hfit : Builtin.nextslicecap (sLen + n) sCap * i.bytes ≤ 281474976710656) :
  (Builtin.append_ #[t, t'] ty #[.slice b sLen sCap, .slice by_ n cy]).run P w =
   .ok (.slice (some ⟨w.heap.size, 0, none⟩) (sLen + n) (grownCap w (sLen + n) sCap e))
    (w.drew.alloc (.cells (olds.toArray ++ news.toArray ++ Builtin.zeroCells z.cells (grownCap w (sLen + n) sCap e - (sLen + n))) e)) := by
 have hn : ¬ (sLen + n ≤ sCap) := by omega
 have h63' : ¬ (9223372036854775807 < ((sLen : Int) + (n : Int))) := by omega
 have h48' : ¬ (281474976710656 < Builtin.nextslicecap (sLen + n) sCap * i.bytes) := by omega
 simp [Builtin.append_, run_underlying ht, run_underlying ht', sizeOf, typeInfo, zeroValue, hi, hz, Builtin.lenOf, hn, h63', h48', Question.forced, hf, hfo, newRow, grownCap]
 congr 2
 apply Array.ext'
 simp [List.append_assoc]
theorem run_app_room {t t' ty e e' : TypeId} {i : TypeInfo} (w : World) (ht : P.underlying t = some (.slice e)) (ht' : P.underlying t' = some (.slice e')) (hi : P.info? e = some i)
  {g sLen sCap : Nat} {by_ : Option Addr} {n cy : Nat} {cur : Array Value} {te : TypeId} {news : List Value} (hgh : w.heap[g]? = some (.cells cur te (0, 0)))
  (hf : (Builtin.firstCells i.size n (.slice by_ n cy)).run P w = .ok news.toArray w) (h1 : ∀ u ∈ news, u.oneCell' = true)
  (hroom : sLen + n ≤ sCap) (hfit : sLen * i.size + news.length ≤ cur.size) :
  (Builtin.append_ #[t, t'] ty #[.slice (some ⟨g, 0, none⟩) sLen sCap, .slice by_ n cy]).run P w =
   .ok (.slice (some ⟨g, 0, none⟩) (sLen + n) sCap) (w.setRow g (cur.toList.take (sLen * i.size) ++ news ++ cur.toList.drop (sLen * i.size + news.length)).toArray) := by
 have hst := run_storeCells_at P g (sLen * i.size) te news 0 cur w hgh (by simpa using hfit) h1
 simp only [Nat.add_zero] at hst
 simp [Builtin.append_, run_underlying ht, run_underlying ht', sizeOf, typeInfo, hi, Builtin.lenOf, hroom, hf, add_none, hst]
theorem run_app_none {t t' ty e e' : TypeId} {i : TypeInfo} (w : World) (ht : P.underlying t = some (.slice e)) (ht' : P.underlying t' = some (.slice e')) (hi : P.info? e = some i)
  {b : Option Addr} {sLen sCap : Nat} {by_ : Option Addr} {cy : Nat} (hf : (Builtin.firstCells i.size 0 (.slice by_ 0 cy)).run P w = .ok #[] w) (hroom : sLen ≤ sCap) :
  (Builtin.append_ #[t, t'] ty #[.slice b sLen sCap, .slice by_ 0 cy]).run P w = .ok (.slice b sLen sCap) w := by
 cases b <;> simp [Builtin.append_, run_underlying ht, run_underlying ht', sizeOf, typeInfo, hi, Builtin.lenOf, hroom, hf, storeCells]
variable {N : Cfg} {C0 : Nat → Nat → Prop} {w0 : World} {σ : AS} {a : Act} {w : World} {C : Nat → Nat → Prop} {m : Nat → Option Nat} {tk : Nat → Option TK} {own : Nat → Option (Nat ⊕ Nat)}
theorem src_rep (h : Rel N C0 w0 σ a w C m tk own) {v : Value} {av : AV} {sz : Nat} {fs : List AV} {md : VM} (hv : Rep C w m tk v av) (he : strip σ.hp av = .sl sz fs md) :
  Rep0 C w v (.sl sz fs .sh) := by
 have hmd : md = .sh := by
  cases av <;> simp only [strip, strip1] at he <;> first | (cases he; done) | (injection he with _ _ h3; exact h3.symm) | skip
  ·split at he <;> cases he
  all_goals
   split at he
   ·split at he
    ·injection he with _ _ h3; exact h3.symm
    ·cases he
   ·cases he
 subst hmd
 rw [← he]
 exact strip_rep h hv (by rw [he]; simp)
theorem s_app {o : Oper} (h : Rel N C0 w0 σ a w C m tk own) {k0 sz by_ : Nat} {x y : VO} (hm : mop2 P o.op (.app k0 sz by_ x y) = true) (hc : vcond (.app k0 sz by_ x y) σ) : Stepped P N C0 w0 o a w (vval (.app k0 sz by_ x y) σ) (vnext (.app k0 sz by_ x y) σ) := by
 cases ho : o.op <;> rw [ho] at hm <;> first | (simp [mop2] at hm; done) | skip
 rename_i c
 obtain ⟨callee, args, argTypes⟩ := c
 simp only [mop2, Bool.and_eq_true] at hm
 obtain ⟨⟨h0, h1⟩, h3⟩ := hm
 split at h0 <;> first | (simp at h0; done) | skip
 obtain ⟨args⟩ := args
 obtain ⟨ats⟩ := argTypes
 simp only at h1 h3
 split at h3 <;> first | (simp at h3; done) | skip
 rename_i t t'
 simp only [Bool.and_eq_true] at h3
 obtain ⟨ht', h3⟩ := h3
 split at h3 <;> first | (simp at h3; done) | skip
 rename_i e he
 simp only [Bool.and_eq_true, beq_iff_eq, decide_eq_true_eq] at h3
 obtain ⟨⟨⟨⟨hs, hby⟩, hble⟩, hsz0⟩, h4⟩ := h3
 split at h4 <;> first | (simp at h4; done) | skip
 rename_i i hi
 split at h4 <;> first | (simp at h4; done) | skip
 rename_i zv hz
 have hzs : zv.cells.size = sz := by simpa using h4
 obtain ⟨e', he'⟩ := Option.isSome_iff_exists.1 ht'
 have hu := elOf_spec he
 have hu' := elOf_spec he'
 obtain ⟨x0, y0, rfl, hx, hy⟩ := opds_two h1
 have hsz : sz ≠ 0 := by simpa using hsz0
 have hisz : i.size = sz := by simpa [szOf, hi] using hs
 have hiby : i.bytes = by_ := by simpa [byOf, hi] using hby
 have r1 := opd_rep h hx
 have r2 := opd_rep h hy
 simp only [vcond] at hc
 simp only [vval, vnext]
 generalize hex : ev σ x = u at *
 cases u <;> first | exact hc.elim | skip
 rename_i sz' es md
 cases hey : strip σ.hp (ev σ y) <;> simp only [hey] at hc ⊢ <;> first | exact hc.elim | skip
 rename_i sz'' fs md'
 obtain ⟨rfl, rfl, hsm, hmd⟩ := hc
 have s1 := rep_sl r1
 have s2 := src_rep h r2 hey
 obtain ⟨olds, fo1, fo2, fo3⟩ := first_rep (P := P) s1 hsz
 obtain ⟨news, fn1, fn2, fn3⟩ := first_rep (P := P) s2 hsz
 obtain ⟨b, sCap, hv1, _⟩ := rep0_sl s1
 obtain ⟨b2, cy, hv2, _⟩ := rep0_sl s2
 have hexec : ∀ v w', (Builtin.append_ #[t, t'] o.type #[.slice b es.length sCap, .slice b2 fs.length cy]).run P w = .ok v w' → (execOp a.eval o).run P w = .ok (.value v) w' := by
  intro v w' hr
  simp [execOp, ho, resolve, invoke, builtin, hv1, hv2, hr]
 have grow : ∀ (k : Nat) (T : TK) (σ' : AS), (∀ (w' : World) (own' : Nat → Option (Nat ⊕ Nat)) (C' : Nat → Nat → Prop) (T' : TK), Rel N C0 w0 σ a w' C m tk own' → T'.sz = sz'' → T'.tip = es.length + fs.length → es.length < T'.tip → (∀ z o, C z o → C' z o) → (∀ z o, C' z o → C z o ∨ own' z = some (.inr k)) → TokOK w0.heap.size C' w' own' k T' →
       ∃ tk', Rel N C0 w0 σ' a w' C' m tk' own' ∧ tk' k = some T') →
   sCap < es.length + fs.length → ∃ v w' C' m' tk' own', Ex1 P o a w v w' ∧ Rel N C0 w0 σ' a w' C' m' tk' own' ∧ Rep C' w' m' tk' v (.sl sz'' (es ++ fs) (.own k)) := by
  intro k T σ' hput hgt
  have hcaple : es.length ≤ sCap := by
   rcases rep0_sl_inv s1 with ⟨rfl, _⟩ | ⟨blk, o', cap, f, hv, hcap, _⟩
   ·exact Nat.zero_le _
   ·rw [hv1] at hv; injection hv with _ _ hcc; omega
  have h63 : ((es.length + fs.length : Nat) : Int) ≤ 9223372036854775807 := by have := hsm.1; omega
  have hnext := nextslicecap_le (need := es.length + fs.length) (old := sCap) hgt
  have hfit : Builtin.nextslicecap (es.length + fs.length) sCap * i.bytes ≤ 281474976710656 := by
   rw [hiby]
   rcases hsm.2 with hs | hs
   ·have : Builtin.nextslicecap (es.length + fs.length) sCap * by_ ≤ 8589934592 * 16384 := Nat.mul_le_mul (by omega) hble
    omega
   ·have h2 : Builtin.nextslicecap (es.length + fs.length) sCap * by_ ≤ (2 * (es.length + fs.length)) * by_ := Nat.mul_le_mul_right _ (by omega)
    rw [Nat.mul_assoc] at h2
    omega
  have hsd : Same C w w.drew := ⟨fun _ _ _ => rfl, fun _ _ h => h⟩
  have hrun := run_app_grow (P := P) (ty := o.type) w hu hu' hi hz (b := b) (sLen := es.length) (sCap := sCap) (by_ := b2) (n := fs.length) (cy := cy) (olds := olds) (news := news)
   (by rw [hisz, ← hv1]; exact fo3 _ hsd) (by rw [hisz, ← hv2]; exact fn3 _ hsd) hgt h63 hfit
  let arr : Array Value := olds.toArray ++ news.toArray ++ Builtin.zeroCells zv.cells (grownCap w (es.length + fs.length) sCap e - (es.length + fs.length))
  let nc := grownCap w (es.length + fs.length) sCap e
  have hnc : es.length + fs.length ≤ nc := grownCap_ge w _ _ _
  have hall : (olds ++ news).length = (es.length + fs.length) * sz'' := by simp [fo1.len, fn1.len, Nat.add_mul]
  have harr : arr.size = nc * sz'' := by
   simp only [arr, Array.size_append, List.size_toArray, size_zeroCells, hzs, fo1.len, fn1.len, ← Nat.add_mul]
   congr 1
   omega
  let w' := w.drew.alloc (.cells arr e)
  have hbel : Below w.heap.size w w' := ((Below.refl _ _).drew).alloc (Nat.le_refl _) _
  have hsame : Same C w w' := same_of_below h.cval hbel
  have hown : own w.heap.size = none := by
   cases ho' : own w.heap.size with
   | none => rfl
   | some y => have := h.owned _ _ ho'; omega
  have hheap : w'.heap[w.heap.size]? = some (.cells arr e (0, 0)) := heap_alloc_new w.drew _
  have hsize : w'.heap.size = w.heap.size + 1 := by simp [w']
  have q1 : Rel N C0 w0 σ a w' C m tk own := h.later hbel (fun _ _ z => z) (fun _ _ z => .inl z) (fun z o hz' => by have := h.cval z o hz'; omega)
  have q2 := q1.addOwn hown (by omega) h.below.size (.inr k)
  let C' : Nat → Nat → Prop := fun z o => C z o ∨ (z = w.heap.size ∧ o < (es.length + fs.length) * sz'')
  have hCC : ∀ z o, C z o → C' z o := fun _ _ hz' => .inl hz'
  let T' : TK := ⟨some ⟨w.heap.size, 0, none⟩, nc, es.length + fs.length, sz''⟩
  have hlt : es.length < es.length + fs.length := by omega
  obtain ⟨tk', q3, q4⟩ := hput w' _ C' T' q2 rfl rfl hlt hCC (by
   rintro z o (hz' | ⟨rfl, _⟩)
   ·exact .inl hz'
   ·exact .inr (by simp [upd])) (by
   refine ⟨hnc, fun _ => ⟨w.heap.size, rfl, by simp [upd], h.below.size, ?_, arr, e, hheap, by rw [harr]; exact Nat.le_refl _⟩⟩
   rintro o ho' (hz' | ⟨_, hz'⟩)
   ·have := h.cval _ _ hz'; omega
   ·simp only [T'] at ho'; omega)
  have hfr := (fo1.append fn1).row (C' := C') (w' := w') (blk := w.heap.size) hCC hsame (by
   intro k' hk'
   exact .inr ⟨rfl, by simpa using hk'⟩) (by
   intro k' hk'
   have hk2 : k' < (olds ++ news).length := by rw [hall]; simpa using hk'
   have e1 : w'.cell? ⟨w.heap.size, k', none⟩ = arr[k']? := by simp [World.cell?, hheap]
   rw [e1]
   simp only [arr]
   rw [Array.getElem?_append_left (by simpa using hk2)]
   simp)
  have hslice := hfr.sl (cap := nc) (by simpa using hnc)
  rw [List.length_append] at hslice
  exact ⟨_, w', C', m, tk', _, .inl (hexec _ _ hrun), q3, hslice, T', q4, rfl, by simp [T'], fun _ => rfl⟩
 by_cases hf0 : fs = []
 ·-- nothing is appended
  subst hf0
  have hcaple : es.length ≤ sCap := by
   rcases rep0_sl_inv s1 with ⟨rfl, _⟩ | ⟨blk, o', cap, f, hv, hcap, _⟩
   ·exact Nat.zero_le _
   ·rw [hv1] at hv; injection hv with _ _ hcc; omega
  have hn0 : news = [] := List.eq_nil_of_length_eq_zero (by simpa using fn1.len)
  subst hn0
  have hrun := run_app_none (P := P) (ty := o.type) w hu hu' hi (b := b) (sLen := es.length) (sCap := sCap) (by_ := b2) (cy := cy) (by rw [hisz]; have := fn3 w (Same.refl _ _); rw [hv2] at this; exact this) hcaple
  simp only [List.append_nil, List.length_nil, Nat.add_zero]
  cases md with
  | sh => exact hmd.elim
  | full =>
   obtain ⟨_, b', hb'⟩ := r1
   rw [hv1] at hb'
   injection hb' with hb1 _ hb3
   have hrel := h.addTok hmd (T' := ⟨b, sCap, es.length, sz''⟩) (C' := C) (fun _ _ z => z) (fun _ _ z => .inl z) ⟨by omega, fun hlt => by simp at hlt; omega⟩
   exact ⟨_, w, C, m, _, own, .inl (hexec _ _ hrun), hrel, by rw [← hv1]; exact s1, _, by simp [upd]; rfl, rfl, Nat.le_refl _, fun _ => rfl⟩
  | own k =>
   obtain ⟨_, T, hT1, hT2, hT3, hT4⟩ := r1
   obtain ⟨T2, hT5, hT6, hT7⟩ := h.toks k _ hmd
   rw [hT1] at hT5
   injection hT5 with hT5
   subst hT5
   have hrel := h.setTok hT1 (T' := T) rfl (Nat.le_refl _) (fun _ => rfl) (C' := C) (fun _ _ z => z) (fun _ _ z => .inl z) hT7
   rw [hT6] at hrel
   refine ⟨_, w, C, m, _, own, .inl (hexec _ _ hrun), hrel, by rw [← hv1]; exact s1, T, by simp [upd], hT2, hT3, fun he2 => ?_⟩
   rw [← hv1]
   exact hT4 he2
 ·have hfl : 0 < fs.length := List.length_pos_iff.2 hf0
  cases md with
  | sh => exact hmd.elim
  | full =>
   obtain ⟨_, b', hb'⟩ := r1
   rw [hv1] at hb'
   injection hb' with hb1 _ hb3
   refine grow k0 ⟨none, 0, 0, 0⟩ _ ?_ (by omega)
   intro w' own' C' T' hrel e1 e2 e3 e4 e5 e6
   have := hrel.addTok hmd e4 e5 e6
   rw [e2] at this
   exact ⟨_, this, by simp [upd]⟩
  | own k =>
   obtain ⟨_, T, hT1, hT2, hT3, hT4⟩ := r1
   obtain ⟨T2, hT5, hT6, hT7⟩ := h.toks k _ hmd
   rw [hT1] at hT5
   injection hT5 with hT5
   subst hT5
   have hvT := hT4 hT6.symm
   rw [hv1] at hvT
   injection hvT with hvT1 hvT2 hvT3
   by_cases hroom : es.length + fs.length ≤ sCap
   ·-- into the spare cells
    obtain ⟨t1, t2⟩ := hT7
    obtain ⟨blk, b1, b2', b3, b4, cur, te, b5, b6⟩ := t2 (by omega)
    have hb : b = some ⟨blk, 0, none⟩ := by rw [hvT1, b1]
    subst hb
    have hcur : (es.length + fs.length) * sz'' ≤ cur.size := by
     have : (es.length + fs.length) * sz'' ≤ T.cap * T.sz := by rw [hT2]; exact Nat.mul_le_mul_right _ (by omega)
     omega
    have hfit : es.length * i.size + news.length ≤ cur.size := by rw [hisz, fn1.len, ← Nat.add_mul]; exact hcur
    have hrun := run_app_room (P := P) (ty := o.type) w hu hu' hi (g := blk) (sLen := es.length) (sCap := sCap) (by_ := b2) (n := fs.length) (cy := cy) (news := news) b5 (by rw [hisz, ← hv2]; exact fn3 w (Same.refl _ _)) fn2 hroom hfit
    rw [hisz] at hrun hfit
    let vs' : Array Value := (cur.toList.take (es.length * sz'') ++ news ++ cur.toList.drop (es.length * sz'' + news.length)).toArray
    have hvs : vs'.size = cur.size := by
     simp only [vs', List.size_toArray, List.length_append, List.length_take, List.length_drop, Array.length_toList]
     omega
    have hsp : ∀ j, vs'[j]? = if es.length * sz'' ≤ j ∧ j < es.length * sz'' + news.length then news[j - es.length * sz'']? else cur[j]? := by
     intro j
     have := splice_get cur.toList news (es.length * sz'') j (by simpa using hfit)
     simpa [vs'] using this
    have hold : ∀ o, C blk o → o < es.length * sz'' := by
     intro o' ho'
     rcases Nat.lt_or_ge o' (es.length * sz'') with hl | hl
     ·exact hl
     ·exact absurd ho' (b4 o' (by rw [hT6, hT2]; exact hl))
    have q1 := h.setSpare (vs' := vs') b2' b5 hvs (fun o' ho' => by rw [hsp, if_neg (by have := hold o' ho'; omega)])
    have hs1 : Same C w (w.setRow blk vs') := by
     refine ⟨?_, cw_setRow b5 hvs⟩
     intro z o' hz'
     by_cases hzz : z = blk
     ·subst hzz
      simp only [World.cell?, setRow_heap w z cur vs' te (0, 0) b5, b5]
      have := hold o' hz'
      simp [hsp, show ¬ (es.length * sz'' ≤ o') by omega]
     ·simp only [World.cell?]
      rw [setRow_other w blk z vs' hzz]
    let C' : Nat → Nat → Prop := fun z o => C z o ∨ (z = blk ∧ o < (es.length + fs.length) * sz'')
    have hCC : ∀ z o, C z o → C' z o := fun _ _ hz' => .inl hz'
    let T' : TK := ⟨T.a, T.cap, es.length + fs.length, T.sz⟩
    have hheap : (w.setRow blk vs').heap[blk]? = some (.cells vs' te (0, 0)) := setRow_heap w blk cur vs' te (0, 0) b5
    have q2 := q1.setTok hT1 (T' := T') rfl (by simp only [T']; omega) (fun hh => by simp only [T'] at hh; omega) (C' := C') hCC (by
     rintro z o' (hz' | ⟨rfl, _⟩)
     ·exact .inl hz'
     ·exact .inr b2') (by
     refine ⟨by simp only [T']; omega, fun _ => ⟨blk, b1, b2', b3, ?_, vs', te, hheap, by simp only [T']; omega⟩⟩
     rintro o' ho' (hz' | ⟨_, hz'⟩)
     ·have := hold o' hz'
      simp only [T', hT2] at ho'
      have h9 : es.length * sz'' ≤ (es.length + fs.length) * sz'' := Nat.mul_le_mul_right _ (by omega)
      omega
     ·simp only [T', hT2] at ho'; omega)
    have hall : (olds ++ news).length = (es.length + fs.length) * sz'' := by simp [fo1.len, fn1.len, Nat.add_mul]
    have hfr := (fo1.append fn1).row (C' := C') (w' := w.setRow blk vs') (blk := blk) hCC hs1 (by
     intro k' hk'
     exact .inr ⟨rfl, by simpa using hk'⟩) (by
     intro k' hk'
     have hk2 : k' < (es.length + fs.length) * sz'' := by simpa using hk'
     have hk3 : k' < vs'.size := by omega
     have e1 : (w.setRow blk vs').cell? ⟨blk, k', none⟩ = vs'[k']? := by simp [World.cell?, hheap]
     rw [e1, hsp]
     rcases Nat.lt_or_ge k' (es.length * sz'') with hl | hl
     ·rw [if_neg (by omega), List.getElem?_append_left (by rw [fo1.len]; exact hl)]
      have hfirst := fo3 w (Same.refl _ _)
      have hcell : ∀ j, j < es.length * sz'' → w.cell? ((⟨blk, 0, none⟩ : Addr).add j) = some (cur[j]?.getD undef) := by
       intro j hj
       have hjc : j < cur.size := by
        have h9 : es.length * sz'' ≤ (es.length + fs.length) * sz'' := Nat.mul_le_mul_right _ (by omega)
        omega
       rw [add_none]
       simp [World.cell?, b5, hjc]
      have hl2 := run_loadCells (P := P) w ⟨blk, 0, none⟩ (es.length * sz'') (fun j => cur[j]?.getD undef) hcell
      rw [hv1] at hfirst
      simp only [Builtin.firstCells] at hfirst
      rw [hl2] at hfirst
      injection hfirst with hfirst _
      have hgk := congrArg (fun z : Array Value => z[k']?) hfirst
      have hkc : k' < cur.size := by
       have h9 : es.length * sz'' ≤ (es.length + fs.length) * sz'' := Nat.mul_le_mul_right _ (by omega)
       omega
      have hko : k' < olds.length := by rw [fo1.len]; exact hl
      simp [hl, hkc, hko] at hgk ⊢
      exact hgk
     ·rw [if_pos (by rw [fn1.len, ← Nat.add_mul]; exact ⟨hl, hk2⟩), List.getElem?_append_right (by rw [fo1.len]; exact hl), fo1.len])
    have hslice := hfr.sl (cap := sCap) (by simpa using hroom)
    rw [List.length_append] at hslice
    refine ⟨_, _, C', m, _, own, .inl (hexec _ _ hrun), q2, hslice, T', by simp [upd], by simp only [T']; exact hT2, by simp [T'], fun _ => ?_⟩
    simp only [T', b1, hvT3]
   ·refine grow k T _ ?_ (by omega)
    intro w' own' C' T' hrel e1 e2 e3 e4 e5 e6
    have := hrel.setTok hT1 (T' := T') (e1.trans hT2.symm) (by omega) (fun hh => by omega) e4 e5 e6
    rw [e2] at this
    exact ⟨_, this, by simp [upd]⟩
end
end Go.V

set_option linter.unusedSimpArgs false
set_option linter.unusedVariables false
set_option linter.unnecessarySimpa false
namespace Go.V
open Go Go.RowKit
theorem flat_length {sz : Nat} : ∀ {es : List AV}, (∀ e ∈ es, e.cells.length = sz) → (flat es).length = es.length * sz
 | [], _ => by simp [flat]
 | e :: r, h => by
  simp only [flat, List.length_append, List.length_cons, Nat.add_mul, Nat.one_mul]
  rw [h e (by simp), flat_length (es := r) fun x hx => h x (by simp [hx])]
  omega
theorem flat_get {sz : Nat} : ∀ {es : List AV}, (∀ e ∈ es, e.cells.length = sz) → ∀ {k : Nat} {c : AV}, (flat es)[k]? = some c → ∃ (i : Nat) (e : AV) (j : Nat), es[i]? = some e ∧ k = i * sz + j ∧ e.cells[j]? = some c
 | [], _, k, c, h => by simp [flat] at h
 | e :: r, hs, k, c, h => by
  simp only [flat] at h
  have he := hs e (by simp)
  rcases Nat.lt_or_ge k e.cells.length with hl | hl
  ·rw [List.getElem?_append_left hl] at h
   exact ⟨0, e, k, rfl, by omega, h⟩
  ·rw [List.getElem?_append_right hl] at h
   obtain ⟨i, e', j, h1, h2, h3⟩ := flat_get (es := r) (fun x hx => hs x (by simp [hx])) h
   refine ⟨i + 1, e', j, by simpa using h1, ?_, h3⟩
   rw [Nat.add_mul, Nat.one_mul]
   omega
theorem flatW_length {sz : Nat} : ∀ {es : List AV}, (∀ e ∈ es, e.cells.length = sz) → (flatW es).length = es.length * sz
 | [], _ => by simp [flatW]
 | e :: r, h => by
  simp only [flatW, List.length_append, List.length_cons, List.length_map, Nat.add_mul, Nat.one_mul]
  rw [h e (by simp), flatW_length (es := r) fun x hx => h x (by simp [hx])]
  omega
theorem flatW_get {sz : Nat} : ∀ {es : List AV}, (∀ e ∈ es, e.cells.length = sz) → ∀ {k : Nat} {c : AV}, (flatW es)[k]? = some c → ∃ (i : Nat) (e : AV) (j : Nat) (c0 : AV), es[i]? = some e ∧ k = i * sz + j ∧ e.cells[j]? = some c0 ∧ c = c0.shr
 | [], _, k, c, h => by simp [flatW] at h
 | e :: r, hs, k, c, h => by
  simp only [flatW] at h
  have he := hs e (by simp)
  rcases Nat.lt_or_ge k e.cells.length with hl | hl
  ·rw [List.getElem?_append_left (by simpa using hl), List.getElem?_map] at h
   obtain ⟨c0, h1, h2⟩ := Option.map_eq_some_iff.1 h
   exact ⟨0, e, k, c0, rfl, by omega, h1, h2.symm⟩
  ·rw [List.getElem?_append_right (by simpa using hl)] at h
   obtain ⟨i, e', j, c0, h1, h2, h3, h4⟩ := flatW_get (es := r) (fun x hx => hs x (by simp [hx])) h
   refine ⟨i + 1, e', j, c0, by simpa using h1, ?_, h3, h4⟩
   rw [Nat.add_mul, Nat.one_mul]
   simp only [List.length_map] at h2
   omega
section
variable {P : Program}
variable {N : Cfg} {C0 : Nat → Nat → Prop} {w0 : World} {σ : AS} {a : Act} {w : World} {C : Nat → Nat → Prop} {m : Nat → Option Nat} {tk : Nat → Option TK} {own : Nat → Option (Nat ⊕ Nat)}
theorem shr_isCell {c : AV} (h : c.isCell = true) : c.shr.isCell = true := by
 cases c <;> first | exact h | rfl | skip
 rename_i md
 cases md <;> first | exact h | rfl
theorem rep_shr {v : Value} {c : AV} (h : Rep C w m tk v c) (hk : c.isCell = true) (ho : v.oneCell' = true) : Rep1 C w m v c.shr := by
 cases c <;> first | (simp [AV.isCell] at hk; done) | exact h | exact Rep0.und _ ho | skip
 rename_i sz es md
 cases md with
 | sh => exact h
 | full => obtain ⟨h1, a', h2⟩ := h; exact Rep0.full v a' sz es h1 h2
 | own k => exact h.1
def Holds (C : Nat → Nat → Prop) (w0n : Nat) (w : World) (m : Nat → Option Nat) (tk : Nat → Option TK) (own : Nat → Option (Nat ⊕ Nat)) (blk : Nat) (cells : List AV) : Prop :=
 own blk = none ∧ blk < w.heap.size ∧ w0n ≤ blk ∧ (∀ o, ¬ C blk o) ∧ ∃ vs ty, w.heap[blk]? = some (.cells vs ty (0, 0)) ∧ cells.length ≤ vs.size ∧
  ∀ (j : Nat) (av : AV), cells[j]? = some av → av.isCell = true ∧ (vs[j]?.getD undef).oneCell' = true ∧ Rep C w m tk (vs[j]?.getD undef) av
theorem Rel.killBox (h : Rel N C0 w0 σ a w C m tk own) {g blk : Nat} {cells : List AV} (hg : getB σ.hp g = some ⟨cells, false⟩) (hm1 : m g = some blk) :
  ∃ own', Rel N C0 w0 { σ with hp := setB g ⟨[], true⟩ σ.hp } a w C m tk own' ∧ (cells ≠ [] → Holds C w0.heap.size w m tk own' blk cells) := by
 obtain ⟨blk', hm2, hbox⟩ := h.boxes g _ hg
 rw [hm1] at hm2
 obtain rfl : blk = blk' := by simpa using hm2
 have mdom' : ∀ b' blk', m b' = some blk' → (getB (setB g ⟨[], true⟩ σ.hp) b').isSome = true := by
  intro b' blk' hx
  have := h.mdom b' blk' hx
  simp only [getB_setB]
  split
  ·rfl
  ·exact this
 simp only [BoxOK] at hbox
 rcases hbox with ⟨hce, hgb⟩ | ⟨c1, c2, c3, vs, ty, c4, c5, c6⟩
 ·refine ⟨own, { gf := h.gf, below := h.below, c0 := h.c0, cnew := h.cnew, cval := h.cval, nc := h.nc, ext := h.ext, size := h.size, slots := h.slots, boxes := ?_, mdom := mdom', toks := h.toks, tdom := h.tdom, owned := h.owned, owns := h.owns }, fun hne => absurd hce hne⟩
  intro b' bx' hb'
  simp only [getB_setB] at hb'
  split at hb'
  ·rename_i heq
   subst heq
   injection hb' with hb'
   subst hb'
   exact ⟨blk, hm1, fun j av hj => by simp at hj⟩
  ·exact h.boxes b' bx' hb'
 ·refine ⟨upd own blk none, { gf := h.gf, below := h.below, c0 := h.c0, cnew := h.cnew, cval := h.cval, nc := h.nc, ext := h.ext, size := h.size, slots := h.slots, boxes := ?_, mdom := mdom', toks := ?_, tdom := h.tdom, owned := ?_, owns := ?_ }, fun _ => ⟨by simp [upd], h.owned _ _ c1, c2, c3, vs, ty, c4, c5, c6⟩⟩
  ·intro b' bx' hb'
   simp only [getB_setB] at hb'
   split at hb'
   ·rename_i heq
    subst heq
    injection hb' with hb'
    subst hb'
    exact ⟨blk, hm1, fun j av hj => by simp at hj⟩
   ·rename_i hne
    obtain ⟨blk', e1, e2⟩ := h.boxes b' bx' hb'
    refine ⟨blk', e1, ?_⟩
    unfold BoxOK at e2 ⊢
    cases hf : bx'.frz with
    | true => simp only [hf] at e2 ⊢; exact e2
    | false =>
     simp only [hf] at e2 ⊢
     rcases e2 with e2 | ⟨f1, f2⟩
     ·exact .inl e2
     have hbb : blk' ≠ blk := by
      intro e
      rw [e, c1] at f1
      simp at f1
      exact hne f1
     exact .inr ⟨by simp [upd, hbb, f1], f2⟩
  ·intro k n hk
   obtain ⟨T, e1, e2, e3, e4⟩ := h.toks k n hk
   refine ⟨T, e1, e2, e3, fun hlt => ?_⟩
   obtain ⟨blk', f1, f2, f3⟩ := e4 hlt
   have hbb : blk' ≠ blk := by
    intro e
    rw [e, c1] at f2
    simp at f2
   exact ⟨blk', f1, by simp [upd, hbb, f2], f3⟩
  ·intro blk' x hx
   unfold upd at hx
   split at hx
   ·simp at hx
   ·exact h.owned _ _ hx
  ·intro blk' x hx
   unfold upd at hx
   split at hx
   ·simp at hx
   ·exact h.owns _ _ hx
theorem Rel.setFree (h : Rel N C0 w0 σ a w C m tk own) {blk : Nat} (ho : own blk = none) (hge : w0.heap.size ≤ blk) (hno : ∀ o, ¬ C blk o) {vs vs' : Array Value} {ty : TypeId} (hb : w.heap[blk]? = some (.cells vs ty (0, 0))) (hn : vs'.size = vs.size) :
  Rel N C0 w0 σ a (w.setRow blk vs') C m tk own := by
 have hs : Same C w (w.setRow blk vs') := same_setRow hb hn hno
 refine { gf := h.gf, below := ?_, c0 := h.c0, cnew := h.cnew, cval := ?_, nc := h.nc.mono (nc_setRow hb), ext := fun p hp t => (h.ext p hp t).mono (fun _ _ x => x) hs, size := h.size, slots := fun t => (h.slots t).mono (fun _ _ x => x) hs, boxes := ?_, mdom := h.mdom, toks := ?_, tdom := h.tdom, owned := ?_, owns := h.owns }
 ·exact h.below.trans ⟨rfl, rfl, rfl, by simp, fun j hj => setRow_other w blk j vs' (by omega)⟩
 ·intro x o hx; simpa using h.cval x o hx
 ·intro b bx hbx
  obtain ⟨blk', e1, e2⟩ := h.boxes b bx hbx
  refine ⟨blk', e1, ?_⟩
  unfold BoxOK at e2 ⊢
  cases hf : bx.frz with
  | true =>
   simp only [hf] at e2 ⊢
   intro j av hj
   obtain ⟨f1, f2, v, f3, f4⟩ := e2 j av hj
   exact ⟨f1, f2, v, by rw [hs.1 _ _ f1]; exact f3, f4.mono (fun _ _ x => x) hs⟩
  | false =>
   simp only [hf] at e2 ⊢
   rcases e2 with e2 | e2
   ·exact .inl e2
   obtain ⟨f1, f2, f3, vs2, ty', f4, f5, f6⟩ := e2
   have hbb : blk' ≠ blk := by
    intro e
    rw [e, ho] at f1
    simp at f1
   refine .inr ⟨f1, f2, f3, vs2, ty', by rw [setRow_other w blk blk' vs' hbb]; exact f4, f5, fun j av hj => ?_⟩
   obtain ⟨g1, g2, g3⟩ := f6 j av hj
   exact ⟨g1, g2, g3.mono (fun _ _ x => x) hs⟩
 ·intro j n hj
  obtain ⟨T, e1, e2, e3, e4⟩ := h.toks j n hj
  refine ⟨T, e1, e2, e3, fun hlt => ?_⟩
  obtain ⟨blk', f1, f2, f3, f4, vs2, ty', f5, f6⟩ := e4 hlt
  have hbb : blk' ≠ blk := by
   intro e
   rw [e, ho] at f2
   simp at f2
  exact ⟨blk', f1, f2, f3, f4, vs2, ty', by rw [setRow_other w blk blk' vs' hbb]; exact f5, f6⟩
 ·intro blk' x hx
  simpa using h.owned _ _ hx
theorem Rel.addBoxAt (h : Rel N C0 w0 σ a w C m tk own) {b0 blk : Nat} {cells : List AV} (hb0 : getB σ.hp b0 = none)
  (hbox : (cells = [] ∧ GB ≤ b0) ∨ Holds C w0.heap.size w m tk own blk cells) :
  ∃ own', Rel N C0 w0 { σ with hp := (b0, ⟨cells, false⟩) :: σ.hp } a w C (upd m b0 (some blk)) tk own' := by
 have hm : ∀ b blk', m b = some blk' → upd m b0 (some blk) b = some blk' := by
  intro b blk' hb
  have := h.mdom b blk' hb
  unfold upd
  rw [if_neg (fun e => by subst e; rw [hb0] at this; simp at this)]
  exact hb
 have ht : ∀ k T, tk k = some T → ∃ T', tk k = some T' ∧ T'.sz = T.sz ∧ T.tip ≤ T'.tip ∧ (T'.tip = T.tip → T' = T) := fun k T hk => ⟨T, hk, rfl, Nat.le_refl _, fun _ => rfl⟩
 have mdom' : ∀ b blk', upd m b0 (some blk) b = some blk' → (getB ((b0, (⟨cells, false⟩ : BX)) :: σ.hp) b).isSome = true := by
  intro b blk' hb
  simp only [getB]
  unfold upd at hb
  split at hb
  ·rename_i heq
   rw [if_pos heq.symm]
   rfl
  ·split
   ·rfl
   ·exact h.mdom b blk' hb
 have main : ∀ own' : Nat → Option (Nat ⊕ Nat), (∀ x y, own x = some y → own' x = some y) → (∀ x y, own' x = some y → own x = some y ∨ (x = blk ∧ blk < w.heap.size ∧ w0.heap.size ≤ blk)) →
   BoxOK w0.heap.size C w (upd m b0 (some blk)) tk own' b0 ⟨cells, false⟩ blk →
   Rel N C0 w0 { σ with hp := (b0, ⟨cells, false⟩) :: σ.hp } a w C (upd m b0 (some blk)) tk own' := by
  intro own' hown hown2 hnew
  refine { gf := h.gf, below := h.below, c0 := h.c0, cnew := h.cnew, cval := h.cval, nc := h.nc, ext := fun p hp t => (h.ext p hp t).ext hm ht, size := h.size, slots := fun t => (h.slots t).ext hm ht, boxes := ?_, mdom := mdom', toks := ?_, tdom := h.tdom, owned := ?_, owns := ?_ }
  ·intro b bx hb
   simp only [getB] at hb
   split at hb
   ·rename_i heq
    subst heq
    injection hb with hb
    subst hb
    exact ⟨blk, by simp [upd], hnew⟩
   ·obtain ⟨blk', e1, e2⟩ := h.boxes b bx hb
    refine ⟨blk', hm _ _ e1, ?_⟩
    unfold BoxOK at e2 ⊢
    cases hf : bx.frz with
    | true => simp only [hf] at e2 ⊢; exact e2
    | false =>
     simp only [hf] at e2 ⊢
     rcases e2 with e2 | e2
     ·exact .inl e2
     obtain ⟨f1, f2, f3, vs', ty', f4, f5, f6⟩ := e2
     refine .inr ⟨hown _ _ f1, f2, f3, vs', ty', f4, f5, fun j av hj => ?_⟩
     obtain ⟨g1, g2, g3⟩ := f6 j av hj
     exact ⟨g1, g2, g3.ext hm ht⟩
  ·intro k n hk
   obtain ⟨T, e1, e2, e3, e4⟩ := h.toks k n hk
   refine ⟨T, e1, e2, e3, fun hlt => ?_⟩
   obtain ⟨blk', f1, f2, f3⟩ := e4 hlt
   exact ⟨blk', f1, hown _ _ f2, f3⟩
  ·intro x y hx
   rcases hown2 x y hx with hx | ⟨rfl, hx, _⟩
   ·exact h.owned _ _ hx
   ·exact hx
  ·intro x y hx
   rcases hown2 x y hx with hx | ⟨rfl, _, hx⟩
   ·exact h.owns _ _ hx
   ·exact hx
 rcases hbox with hbox | ⟨c1, c2, c3, c4, vs, ty, c5, c6, c7⟩
 ·exact ⟨own, main own (fun _ _ x => x) (fun _ _ x => .inl x) (by simp only [BoxOK]; exact .inl hbox)⟩
 ·refine ⟨upd own blk (some (.inl b0)), main _ ?_ ?_ ?_⟩
  ·intro x y hx
   unfold upd
   rw [if_neg (fun e => by rw [e, c1] at hx; simp at hx)]
   exact hx
  ·intro x y hx
   unfold upd at hx
   split at hx
   ·rename_i e; exact .inr ⟨e, c2, c3⟩
   ·exact .inl hx
  ·simp only [BoxOK]
   refine .inr ⟨by simp [upd], c3, c4, vs, ty, c5, c6, fun j av hj => ?_⟩
   obtain ⟨d1, d2, d3⟩ := c7 j av hj
   exact ⟨d1, d2, d3.ext hm ht⟩
theorem s_nilsG {o : Oper} (h : Rel N C0 w0 σ a w C m tk own) {b sz : Nat} {ix : Option VO} {ag : Bool} (hm : mop2 P o.op (.nilsG b ix sz ag) = true) (hc : vcond (.nilsG b ix sz ag) σ) : Stepped P N C0 w0 o a w (vval (.nilsG b ix sz ag) σ) (vnext (.nilsG b ix sz ag) σ) := by
 cases ho : o.op <;> rw [ho] at hm <;> first | (simp [mop2] at hm; done) | skip
 rename_i x
 simp only [mop2] at hm
 obtain ⟨h1, b', h2⟩ := opd_rep h hm
 obtain ⟨own', hr⟩ := h.addBoxAt (blk := 0) (cells := []) hc (.inl ⟨rfl, K_ge _ _ _⟩)
 exact ⟨a.eval x, w, C, _, tk, own', .inl (by simp [execOp, ho]), hr, 0, by simp [upd], .inl ⟨rfl, b', h2⟩⟩
theorem y_read (h : Rel N C0 w0 σ a w C m tk own) {v : Value} {av : AV} (hv : Rep C w m tk v av) {sz k : Nat} {cs : List AV} (hy : yInfo av = some (sz, k, cs)) (hz : sz ≠ 0) :
  ∃ (b2 : Option Addr) (cy : Nat) (news : List Value), v = .slice b2 k cy ∧ news.length = k * sz ∧ cs.length = k * sz ∧ (∀ u ∈ news, u.oneCell' = true) ∧
   (∀ w', Same C w w' → (Builtin.firstCells sz k (.slice b2 k cy)).run P w' = .ok news.toArray w') ∧ ∀ (j : Nat) (c : AV), cs[j]? = some c → c.isCell = true ∧ Rep C w m tk (news[j]?.getD undef) c := by
 unfold yInfo at hy
 split at hy <;> first | (cases hy; done) | skip
 ·rename_i sz0 fs md
  injection hy with hy
  injection hy with hy1 hy2
  injection hy2 with hy2 hy3
  subst hy1 hy2 hy3
  have s2 := rep_sl hv
  obtain ⟨news, fn1, fn2, fn3⟩ := first_rep (P := P) s2 hz
  obtain ⟨b2, cy, hv2, _⟩ := rep0_sl s2
  have hsz : ∀ e ∈ fs, e.cells.length = sz0 := by
   intro e he
   obtain ⟨i, hi, rfl⟩ := List.getElem_of_mem he
   exact fn1.hsz i _ (by simp [hi])
  refine ⟨b2, cy, news, hv2, fn1.len, flat_length hsz, fn2, fun w' hs => by rw [← hv2]; exact fn3 w' hs, fun j c hj => ?_⟩
  obtain ⟨i, e, j', h1, rfl, h3⟩ := flat_get hsz hj
  exact ⟨fn1.hka i e h1 j' c h3, (fn1.hr i e h1 j' c h3).toRep⟩
 ·rename_i sz0 k0 cs0
  injection hy with hy
  injection hy with hy1 hy2
  injection hy2 with hy2 hy3
  subst hy1 hy2 hy3
  obtain ⟨blk, f, rfl, h2, h3⟩ := hv
  refine ⟨_, k0, (List.range (k0 * sz0)).map f, rfl, by simp, h2, ?_, fun w' hs => ?_, fun j c hj => ?_⟩
  ·intro u hu
   simp only [List.mem_map, List.mem_range] at hu
   obtain ⟨j, hj, rfl⟩ := hu
   have hlt : j < cs0.length := by omega
   exact (h3 j cs0[j] (by simp [hlt])).2.2.2.1
  ·simp only [Builtin.firstCells]
   rw [run_loadCells (P := P) w' _ (k0 * sz0) f (fun j hj => ?_)]
   have hlt : j < cs0.length := by omega
   obtain ⟨k1, k2, _⟩ := h3 j cs0[j] (by simp [hlt])
   rw [add_none, Nat.zero_add, hs.1 _ _ k1]
   exact k2
  ·obtain ⟨k1, k2, k3, k4, k5⟩ := h3 j c hj
   have hlt : j < k0 * sz0 := by rw [← h2]; exact (List.getElem?_eq_some_iff.1 hj).1
   refine ⟨k3, ?_⟩
   have e : ((List.range (k0 * sz0)).map f)[j]?.getD undef = f j := by simp [hlt]
   rw [e]
   exact rep1_toRep k5
theorem app_core (h : Rel N C0 w0 σ a w C m tk own) {sz : Nat} (hz : sz ≠ 0) {b : Option Addr} {n sCap g' : Nat} {cells : List AV} (hg' : getB σ.hp g' = none) (hgb : GB ≤ g') (hcl : cells.length = n * sz)
  (hx : (n = 0 ∧ sCap = 0) ∨ (0 < n ∧ ∃ blk, b = some ⟨blk, 0, none⟩ ∧ n ≤ sCap ∧ CW w blk (sCap * sz) ∧ Holds C w0.heap.size w m tk own blk cells))
  {b2 : Option Addr} {k cy : Nat} {news : List Value} {cs : List AV} (hn1 : news.length = k * sz) (hn2 : cs.length = k * sz) (hn3 : ∀ u ∈ news, u.oneCell' = true)
  (hn4 : ∀ w', Same C w w' → (Builtin.firstCells sz k (.slice b2 k cy)).run P w' = .ok news.toArray w') (hn5 : ∀ (j : Nat) (c : AV), cs[j]? = some c → c.isCell = true ∧ Rep C w m tk (news[j]?.getD undef) c)
  {t t' ty e e' : TypeId} {i : TypeInfo} {zv : Value} (hu : P.underlying t = some (.slice e)) (hu' : P.underlying t' = some (.slice e')) (hi : P.info? e = some i) (hzv : i.zero = some zv) (hzs : zv.cells.size = sz) (hisz : i.size = sz) (hby : i.bytes ≤ 16384) (hsm : small (n + k)) :
  ∃ v w' m' own' blk', (Builtin.append_ #[t, t'] ty #[.slice b n sCap, .slice b2 k cy]).run P w = .ok v w' ∧ Rel N C0 w0 { σ with hp := (g', ⟨cells ++ cs, false⟩) :: σ.hp } a w' C m' tk own' ∧ m' g' = some blk' ∧ GV w' blk' sz (n + k) v := by
 have hcap : n ≤ sCap := by
  rcases hx with ⟨h1, h2⟩ | ⟨_, _, _, h2, _⟩ <;> omega
 by_cases hk0 : k = 0
 ·-- nothing is appended
  subst hk0
  have hn0 : news = [] := List.eq_nil_of_length_eq_zero (by simpa using hn1)
  have hc0 : cs = [] := List.eq_nil_of_length_eq_zero (by simpa using hn2)
  subst hn0 hc0
  have hrun := run_app_none (P := P) (ty := ty) w hu hu' hi (b := b) (sLen := n) (sCap := sCap) (by_ := b2) (cy := cy) (by rw [hisz]; exact hn4 w (Same.refl _ _)) hcap
  simp only [List.append_nil, Nat.add_zero]
  rcases hx with ⟨rfl, rfl⟩ | ⟨hn, blk, rfl, h2, h3, h4⟩
  ·have hc : cells = [] := List.eq_nil_of_length_eq_zero (by simpa using hcl)
   obtain ⟨own', hr⟩ := h.addBoxAt (blk := 0) (cells := cells) hg' (.inl ⟨hc, hgb⟩)
   exact ⟨_, w, _, own', 0, hrun, hr, by simp [upd], .inl ⟨rfl, b, rfl⟩⟩
  ·obtain ⟨own', hr⟩ := h.addBoxAt (cells := cells) hg' (.inr h4)
   exact ⟨_, w, _, own', blk, hrun, hr, by simp [upd], .inr ⟨hn, sCap, h2, rfl, h3⟩⟩
 ·by_cases hroom : n + k ≤ sCap
  ·-- into the spare cells
   rcases hx with ⟨rfl, rfl⟩ | ⟨hn, blk, rfl, h2, h3, h4⟩
   ·omega
   obtain ⟨c1, c2, c3, c4, vs, ty', c5, c6, c7⟩ := h4
   obtain ⟨vs0, ty0, d1, d2⟩ := h3
   rw [c5] at d1
   injection d1 with d1
   injection d1 with d1 d1' _
   subst d1 d1'
   have hcur : (n + k) * sz ≤ vs.size := Nat.le_trans (Nat.mul_le_mul_right _ hroom) d2
   have hfit : n * i.size + news.length ≤ vs.size := by rw [hisz, hn1, ← Nat.add_mul]; exact hcur
   have hrun := run_app_room (P := P) (ty := ty) w hu hu' hi (g := blk) (sLen := n) (sCap := sCap) (by_ := b2) (n := k) (cy := cy) (news := news) c5 (by rw [hisz]; exact hn4 w (Same.refl _ _)) hn3 hroom hfit
   rw [hisz] at hrun hfit
   let vs' : Array Value := (vs.toList.take (n * sz) ++ news ++ vs.toList.drop (n * sz + news.length)).toArray
   have hvs : vs'.size = vs.size := by
    simp only [vs', List.size_toArray, List.length_append, List.length_take, List.length_drop, Array.length_toList]
    omega
   have hsp : ∀ j, vs'[j]? = if n * sz ≤ j ∧ j < n * sz + news.length then news[j - n * sz]? else vs[j]? := by
    intro j
    have := splice_get vs.toList news (n * sz) j (by simpa using hfit)
    simpa [vs'] using this
   have hs : Same C w (w.setRow blk vs') := same_setRow c5 hvs c4
   have q1 := h.setFree c1 c3 c4 c5 hvs
   have hheap : (w.setRow blk vs').heap[blk]? = some (.cells vs' ty' (0, 0)) := setRow_heap w blk vs vs' ty' (0, 0) c5
   have hlen : (cells ++ cs).length = (n + k) * sz := by rw [List.length_append, hcl, hn2, ← Nat.add_mul]
   obtain ⟨own', hr⟩ := q1.addBoxAt (blk := blk) (cells := cells ++ cs) hg' (.inr ⟨c1, by simpa using c2, c3, c4, vs', ty', hheap, by rw [hvs, hlen]; exact hcur, fun j av hj => by
    rcases Nat.lt_or_ge j cells.length with hl | hl
    ·rw [List.getElem?_append_left hl] at hj
     obtain ⟨e1, e2, e3⟩ := c7 j av hj
     rw [hsp, if_neg (by omega)]
     exact ⟨e1, e2, e3.mono (fun _ _ x => x) hs⟩
    ·rw [List.getElem?_append_right hl] at hj
     obtain ⟨e1, e2⟩ := hn5 _ av hj
     have hj2 := (List.getElem?_eq_some_iff.1 hj).1
     rw [hsp, if_pos (by omega), ← hcl]
     have hlt : j - cells.length < news.length := by omega
     refine ⟨e1, ?_, e2.mono (fun _ _ x => x) hs⟩
     have : news[j - cells.length]? = some news[j - cells.length] := by simp [hlt]
     rw [this]
     exact hn3 _ (by simp)⟩)
   exact ⟨_, _, _, own', blk, hrun, hr, by simp [upd], .inr ⟨by omega, sCap, hroom, rfl, cw_setRow c5 hvs _ _ ⟨vs, ty', c5, d2⟩⟩⟩
  ·-- a new block
   have hgt : sCap < n + k := by omega
   have h63 : ((n + k : Nat) : Int) ≤ 9223372036854775807 := by unfold small at hsm; omega
   have hnext := nextslicecap_le (need := n + k) (old := sCap) hgt
   have hfit : Builtin.nextslicecap (n + k) sCap * i.bytes ≤ 281474976710656 := by
    have : Builtin.nextslicecap (n + k) sCap * i.bytes ≤ 8589934592 * 16384 := Nat.mul_le_mul (by unfold small at hsm; omega) hby
    omega
   have hsd : Same C w w.drew := ⟨fun _ _ _ => rfl, fun _ _ h => h⟩
   obtain ⟨olds, ho1, ho2, ho3⟩ : ∃ olds : List Value, olds.length = n * sz ∧ (Builtin.firstCells i.size n (.slice b n sCap)).run P w.drew = .ok olds.toArray w.drew ∧
     ∀ (j : Nat) (av : AV), cells[j]? = some av → av.isCell = true ∧ (olds[j]?.getD undef).oneCell' = true ∧ Rep C w m tk (olds[j]?.getD undef) av := by
    rcases hx with ⟨rfl, rfl⟩ | ⟨hn, blk, rfl, h2, h3, h4⟩
    ·refine ⟨[], by simp, ?_, fun j av hj => ?_⟩
     ·cases b <;> simp [Builtin.firstCells, loadCells, loadCellsFrom]
     ·have hc : cells = [] := List.eq_nil_of_length_eq_zero (by simpa using hcl)
      rw [hc] at hj; simp at hj
    ·obtain ⟨c1, c2, c3, c4, vs, ty', c5, c6, c7⟩ := h4
     refine ⟨(List.range (n * sz)).map (fun j => vs[j]?.getD undef), by simp, ?_, fun j av hj => ?_⟩
     ·simp only [Builtin.firstCells, hisz]
      rw [run_loadCells (P := P) w.drew _ (n * sz) (fun j => vs[j]?.getD undef) (fun j hj => ?_)]
      have hlt : j < vs.size := by omega
      rw [add_none, Nat.zero_add]
      have c5' : w.drew.heap[blk]? = some (.cells vs ty' (0, 0)) := c5
      simp [World.cell?, c5', hlt]
     ·have hlt : j < n * sz := by rw [← hcl]; exact (List.getElem?_eq_some_iff.1 hj).1
      have e : ((List.range (n * sz)).map (fun j => vs[j]?.getD undef))[j]?.getD undef = vs[j]?.getD undef := by simp [hlt]
      rw [e]
      exact c7 j av hj
   have hrun := run_app_grow (P := P) (ty := ty) w hu hu' hi hzv (b := b) (sLen := n) (sCap := sCap) (by_ := b2) (n := k) (cy := cy) (olds := olds) (news := news) ho2 (by rw [hisz]; exact hn4 _ hsd) hgt h63 hfit
   let nc := grownCap w (n + k) sCap e
   let arr : Array Value := olds.toArray ++ news.toArray ++ Builtin.zeroCells zv.cells (nc - (n + k))
   have hnc : n + k ≤ nc := grownCap_ge w _ _ _
   have harr : arr.size = nc * sz := by
    simp only [arr, Array.size_append, List.size_toArray, size_zeroCells, hzs, ho1, hn1, ← Nat.add_mul]
    congr 1
    omega
   let w' := w.drew.alloc (.cells arr e)
   have hbel : Below w.heap.size w w' := ((Below.refl _ _).drew).alloc (Nat.le_refl _) _
   have hs : Same C w w' := same_of_below h.cval hbel
   have hheap : w'.heap[w.heap.size]? = some (.cells arr e (0, 0)) := heap_alloc_new w.drew _
   have hsize : w'.heap.size = w.heap.size + 1 := by simp [w']
   have q1 : Rel N C0 w0 σ a w' C m tk own := h.later hbel (fun _ _ z => z) (fun _ _ z => .inl z) (fun z o hz' => by have := h.cval z o hz'; omega)
   have hown : own w.heap.size = none := by
    cases ho' : own w.heap.size with
    | none => rfl
    | some y => have := h.owned _ _ ho'; omega
   have hlen : (cells ++ cs).length = (n + k) * sz := by rw [List.length_append, hcl, hn2, ← Nat.add_mul]
   have hmul : (n + k) * sz ≤ nc * sz := Nat.mul_le_mul_right _ hnc
   obtain ⟨own', hr⟩ := q1.addBoxAt (blk := w.heap.size) (cells := cells ++ cs) hg' (.inr ⟨hown, by omega, h.below.size, fun o ho' => by have := h.cval _ _ ho'; omega, arr, e, hheap, by rw [hlen, harr]; exact hmul, fun j av hj => by
    rcases Nat.lt_or_ge j cells.length with hl | hl
    ·rw [List.getElem?_append_left hl] at hj
     obtain ⟨e1, e2, e3⟩ := ho3 j av hj
     have hjo : j < olds.length := by omega
     have ea : arr[j]?.getD undef = olds[j]?.getD undef := by
      simp only [arr]
      rw [Array.getElem?_append_left (by simp; omega), Array.getElem?_append_left (by simpa using hjo)]
      simp
     rw [ea]
     exact ⟨e1, e2, e3.mono (fun _ _ x => x) hs⟩
    ·rw [List.getElem?_append_right hl] at hj
     obtain ⟨e1, e2⟩ := hn5 _ av hj
     have hj2 := (List.getElem?_eq_some_iff.1 hj).1
     have hlt : j - cells.length < news.length := by omega
     have ea : arr[j]?.getD undef = news[j - cells.length]?.getD undef := by
      simp only [arr]
      rw [Array.getElem?_append_left (by simp; omega), Array.getElem?_append_right (by simp; omega)]
      simp [ho1, hcl]
     rw [ea]
     refine ⟨e1, ?_, e2.mono (fun _ _ x => x) hs⟩
     have : news[j - cells.length]? = some news[j - cells.length] := by simp [hlt]
     rw [this]
     exact hn3 _ (by simp)⟩)
   exact ⟨_, w', _, own', w.heap.size, hrun, hr, by simp [upd], .inr ⟨by omega, nc, hnc, rfl, arr, e, hheap, by rw [harr]; exact Nat.le_refl _⟩⟩
theorem s_appG {o : Oper} (h : Rel N C0 w0 σ a w C m tk own) {b0 sz by_ : Nat} {ix : Option VO} {ag : Bool} {x y : VO} (hm : mop2 P o.op (.appG b0 ix sz by_ ag x y) = true) (hc : vcond (.appG b0 ix sz by_ ag x y) σ) : Stepped P N C0 w0 o a w (vval (.appG b0 ix sz by_ ag x y) σ) (vnext (.appG b0 ix sz by_ ag x y) σ) := by
 cases ho : o.op <;> rw [ho] at hm <;> first | (simp [mop2] at hm; done) | skip
 rename_i c
 obtain ⟨callee, args, argTypes⟩ := c
 simp only [mop2, Bool.and_eq_true] at hm
 obtain ⟨⟨h0, h1⟩, h3⟩ := hm
 split at h0 <;> first | (simp at h0; done) | skip
 obtain ⟨args⟩ := args
 obtain ⟨ats⟩ := argTypes
 simp only at h1 h3
 split at h3 <;> first | (simp at h3; done) | skip
 rename_i t t'
 simp only [Bool.and_eq_true] at h3
 obtain ⟨ht', h3⟩ := h3
 split at h3 <;> first | (simp at h3; done) | skip
 rename_i e he
 simp only [Bool.and_eq_true, beq_iff_eq, decide_eq_true_eq] at h3
 obtain ⟨⟨⟨⟨hs, hby⟩, hble⟩, hsz0⟩, h4⟩ := h3
 split at h4 <;> first | (simp at h4; done) | skip
 rename_i i hi
 split at h4 <;> first | (simp at h4; done) | skip
 rename_i zv hz
 have hzs : zv.cells.size = sz := by simpa using h4
 obtain ⟨e', he'⟩ := Option.isSome_iff_exists.1 ht'
 have hu := elOf_spec he
 have hu' := elOf_spec he'
 obtain ⟨x0, y0, rfl, hx, hy⟩ := opds_two h1
 have hsz : sz ≠ 0 := by simpa using hsz0
 have hisz : i.size = sz := by simpa [szOf, hi] using hs
 have hiby : i.bytes = by_ := by simpa [byOf, hi] using hby
 have r1 := opd_rep h hx
 have r2 := opd_rep h hy
 simp only [vcond] at hc
 simp only [vval, vnext]
 cases hyi : yInfo (ev σ y) with
 | none => simp [hyi] at hc
 | some q =>
  obtain ⟨sz'', k, cs⟩ := q
  simp only [hyi] at hc ⊢
  obtain ⟨rfl, hc⟩ := hc
  obtain ⟨b2, cy, news, hv2, n1, n2, n3, n4, n5⟩ := y_read (P := P) h r2 hyi hsz
  have hexec : ∀ {b : Option Addr} {n sCap : Nat} {v : Value} {w' : World}, a.eval x0 = .slice b n sCap → (Builtin.append_ #[t, t'] o.type #[.slice b n sCap, .slice b2 k cy]).run P w = .ok v w' → (execOp a.eval o).run P w = .ok (.value v) w' := by
   intro b n sCap v w' hv1 hr
   simp [execOp, ho, resolve, invoke, builtin, hv1, hv2, hr]
  generalize hex : ev σ x = u at *
  split at hc <;> first | exact hc.elim | skip
  ·rename_i b i1 v sz' n ag'
   obtain ⟨rfl, rfl, rfl, hsm, hfresh, hbx⟩ := hc
   simp only
   split at hbx <;> first | exact hbx.elim | skip
   rename_i cells hg
   obtain ⟨blk, hm1, hgv⟩ := r1
   obtain ⟨own', hk1, hk2⟩ := h.killBox hg hm1
   have hkm : ∀ {c : AV} {v : Value}, Rep C w m tk v c → Rep C w m tk v c := fun x => x
   rw [hg]
   simp only [Option.map_some, Option.getD_some]
   have hnew : getB (setB (K b i1 v) ⟨[], true⟩ σ.hp) (K b i1 (v + 1)) = none := by
    rw [getB_setB, if_neg (by rw [K_inj]; omega)]
    exact hfresh
   obtain ⟨bb, sCap, hv1, hx2⟩ : ∃ bb sCap, a.eval x0 = .slice bb n sCap ∧ ((n = 0 ∧ sCap = 0) ∨ (0 < n ∧ ∃ blk, bb = some ⟨blk, 0, none⟩ ∧ n ≤ sCap ∧ CW w blk (sCap * sz') ∧ Holds C w0.heap.size w m tk own' blk cells)) := by
    rcases hgv with ⟨rfl, a', hv⟩ | ⟨hn, cap, hnc, hv, hcw⟩
    ·exact ⟨a', 0, hv, .inl ⟨rfl, rfl⟩⟩
    ·refine ⟨_, cap, hv, .inr ⟨hn, blk, rfl, hnc, hcw, hk2 ?_⟩⟩
     rintro rfl
     simp only [List.length_nil] at hbx
     rcases Nat.mul_eq_zero.1 hbx.symm with h9 | h9 <;> omega
   obtain ⟨v', w', m', own2, blk', g1, g2, g3, g4⟩ := app_core (P := P) hk1 hsz hnew (K_ge _ _ _) hbx hx2 n1 n2 n3 n4 n5 hu hu' hi hz hzs hisz (by omega) hsm (ty := o.type)
   exact ⟨v', w', C, m', tk, own2, .inl (hexec hv1 g1), g2, blk', g3, g4⟩
  ·rename_i sz'
   obtain ⟨rfl, hsm, hfresh⟩ := hc
   simp only
   obtain ⟨_, bb, hv1⟩ := r1
   simp only [List.length_nil] at hv1
   obtain ⟨v', w', m', own2, blk', g1, g2, g3, g4⟩ := app_core (P := P) (n := 0) (sCap := 0) (cells := []) h hsz hfresh (K_ge _ _ _) (by simp) (.inl ⟨rfl, rfl⟩) n1 n2 n3 n4 n5 hu hu' hi hz hzs hisz (by omega) (by rw [Nat.zero_add]; exact hsm) (ty := o.type)
   rw [Nat.zero_add] at g4
   exact ⟨v', w', C, m', tk, own2, .inl (hexec hv1 g1), g2, blk', g3, g4⟩
theorem s_loadW {o : Oper} (h : Rel N C0 w0 σ a w C m tk own) {n : Nat} {x : VO} {avs : List Nat} (hm : mop2 P o.op (.loadW n x avs) = true) (hc : vcond (.loadW n x avs) σ) : Quiet P o a w C m tk (vval (.loadW n x avs) σ) := by
 cases ho : o.op <;> rw [ho] at hm <;> first | (simp [mop2] at hm; done) | skip
 rename_i t x0
 simp only [mop2, Bool.and_eq_true, beq_iff_eq] at hm
 obtain ⟨⟨h1, hs⟩, ha⟩ := hm
 have r1 := opd_rep h h1
 simp only [vcond] at hc
 simp only [vval]
 generalize ev σ x = u at *
 cases u <;> first | exact hc.elim | skip
 rename_i b off
 obtain ⟨blk, hm1, hv⟩ := r1
 cases hg : getB σ.hp b with
 | none => simp [hg] at hc
 | some bx =>
  simp only [hg] at hc ⊢
  have hcell : ∀ j, j < n → w.cell? ((⟨blk, off, none⟩ : Addr).add j) = some ((w.cell? ⟨blk, off + j, none⟩).getD undef) := by
   intro j hj
   have hlt : off + j < bx.cells.length := by omega
   obtain ⟨_, v, hv, _⟩ := box_cell h hg hm1 (j := off + j) (av := bx.cells[off + j]) (by simp [hlt])
   rw [add_none, hv]
   rfl
  have hl := run_loadCells (P := P) w ⟨blk, off, none⟩ n (fun j => (w.cell? ⟨blk, off + j, none⟩).getD undef) hcell
  refine quiet_of (by simp [execOp, ho, hv, Instr.loadAt, Instr.sureAddr, loadVar, run_aggOf ha, run_szOf hs, hl]; rfl) ?_
  refine ⟨_, rfl, by simp; omega, fun j c hj => ?_⟩
  rw [List.getElem?_map] at hj
  obtain ⟨c0, hj0, rfl⟩ := Option.map_eq_some_iff.1 hj
  rw [List.getElem?_take] at hj0
  split at hj0
  ·rename_i hlt
   have hj1 : bx.cells[off + j]? = some c0 := by simpa using hj0
   obtain ⟨d1, v, d2, d3, d4⟩ := box_cell h hg hm1 hj1
   have e : (((List.range n).map fun j => (w.cell? ⟨blk, off + j, none⟩).getD undef).toArray)[j]?.getD undef = v := by simp [hlt, d2]
   rw [e]
   exact ⟨shr_isCell d1, d3, rep_shr d4 d1 d3⟩
  ·simp at hj0
theorem fill_rowW {sz : Nat} (hz : sz ≠ 0) (h : Rel N C0 w0 σ a w C m tk own) : ∀ (ps : List (Nat × Operand)) (ys : List VO) (k n : Nat) (cs : Array Value), partsOK k ps ys = true → cs.size = n * sz → k + ys.length ≤ n →
  (∀ y ∈ ys, (ev σ y).okv = true ∧ (ev σ y).cells.length = sz) →
  ∃ r, Instr.fill (fun i => some (i * sz, sz)) cs (ps.map fun p => (p.1, a.eval p.2)) = some r ∧ r.size = cs.size ∧
   (∀ i, i < k * sz ∨ (k + ys.length) * sz ≤ i → r[i]? = cs[i]?) ∧
   ∀ (i : Nat) (y : VO), ys[i]? = some y → ∀ (j : Nat) (c : AV), (ev σ y).cells[j]? = some c → c.isCell = true ∧ (r[(k + i) * sz + j]?.getD undef).oneCell' = true ∧ Rep C w m tk (r[(k + i) * sz + j]?.getD undef) c
 | [], [], k, n, cs, _, _, _, _ => ⟨cs, rfl, rfl, fun _ _ => rfl, fun i y hy => by simp at hy⟩
 | [], _ :: _, _, _, _, hp, _, _, _ => by simp [partsOK] at hp
 | _ :: _, [], _, _, _, hp, _, _, _ => by simp [partsOK] at hp
 | (i0, x) :: ps, y :: ys, k, n, cs, hp, hsz, hkn, hall => by
  simp only [partsOK, Bool.and_eq_true, beq_iff_eq] at hp
  obtain ⟨⟨rfl, hxy⟩, hps⟩ := hp
  obtain ⟨hok, hlen⟩ := hall y (by simp)
  obtain ⟨c1, c2⟩ := rep_cells h (opd_rep h hxy) hok
  have hvs : (a.eval x).cells.size = sz := by omega
  have hfit : i0 * sz + (a.eval x).cells.size ≤ cs.size := by
   rw [hsz, hvs]
   have : (i0 + 1) * sz ≤ n * sz := Nat.mul_le_mul_right _ (by simp at hkn; omega)
   rw [Nat.add_mul, Nat.one_mul] at this
   exact this
  obtain ⟨f1, f2⟩ := fold_cells (a.eval x) (i0 * sz) cs
  obtain ⟨r, g1, g2, g3, g4⟩ := fill_rowW hz h ps ys (i0 + 1) n _ hps (f1.trans hsz) (by simp at hkn; omega) (fun z hz' => hall z (by simp [hz']))
  refine ⟨r, ?_, g2.trans f1, fun i hi => ?_, fun i z hi j c hj => ?_⟩
  ·simp only [List.map_cons, Instr.fill]
   rw [if_neg (by simp [hvs]; omega)]
   exact g1
  ·simp only [List.length_cons] at hi
   rw [g3 i (by
    rcases hi with hi | hi
    ·left; rw [Nat.add_mul]; omega
    ·right; rw [show i0 + 1 + ys.length = i0 + (ys.length + 1) by omega]; exact hi), f2 i, if_neg]
   rintro ⟨e1, e2, e3⟩
   rcases hi with hi | hi
   ·omega
   ·have : (i0 + 1) * sz ≤ (i0 + (ys.length + 1)) * sz := Nat.mul_le_mul_right _ (by omega)
    rw [Nat.add_mul, Nat.one_mul] at this
    omega
  ·cases i with
   | succ i =>
    have := g4 i z (by simpa using hi) j c hj
    rwa [show i0 + 1 + i = i0 + (i + 1) by omega] at this
   | zero =>
    simp only [List.getElem?_cons_zero, Option.some.injEq] at hi
    subst hi
    have hjl : j < sz := by rw [← hlen]; exact (List.getElem?_eq_some_iff.1 hj).1
    rw [Nat.add_zero, g3 _ (by left; rw [Nat.add_mul, Nat.one_mul]; omega), f2, if_pos (by omega), Nat.add_sub_cancel_left]
    exact c2 j c hj
theorem s_bsliceW {o : Oper} (h : Rel N C0 w0 σ a w C m tk own) {sz : Nat} {xs : List VO} (hm : mop2 P o.op (.bsliceW sz xs) = true) (hc : vcond (.bsliceW sz xs) σ) : Stepped P N C0 w0 o a w (vval (.bsliceW sz xs) σ) (vnext (.bsliceW sz xs) σ) := by
 cases ho : o.op <;> rw [ho] at hm <;> first | (simp [mop2] at hm; done) | skip
 rename_i t n parts
 simp only [mop2, Bool.and_eq_true, beq_iff_eq, decide_eq_true_eq] at hm
 obtain ⟨⟨⟨⟨h1, h2⟩, h3⟩, hsz0⟩, h4⟩ := hm
 split at h4 <;> first | (simp at h4; done) | skip
 rename_i e he
 simp only [Bool.and_eq_true, beq_iff_eq] at h4
 obtain ⟨hs, h4⟩ := h4
 split at h4 <;> first | (simp at h4; done) | skip
 rename_i i hi
 obtain ⟨zv, hz⟩ := Option.isSome_iff_exists.1 h4
 have hu := elOf_spec he
 have hsz : sz ≠ 0 := by simpa using hsz0
 obtain ⟨hc1, hc2⟩ := hc
 have hmemS : ∀ y ∈ xs, (ev σ y).okv = true ∧ (ev σ y).cells.length = sz := by
  intro y hy
  obtain ⟨j, hj, rfl⟩ := List.getElem_of_mem hy
  have hmem : ev σ xs[j] ∈ evs σ xs := by
   apply List.mem_of_getElem? (i := j)
   rw [evs_get]
   simp [hj]
  exact ⟨allOk_mem hc1 _ hmem, allSz_mem hc2 _ hmem⟩
 have hsE : ∀ e ∈ evs σ xs, e.cells.length = sz := allSz_mem hc2
 let cs0 : Array Value := (Array.range (n * sz)).map fun x => ((if n * sz = 0 then #[] else zv.cells)[x % (if n * sz = 0 then #[] else zv.cells).size]!)
 have hcs0 : cs0.size = n * sz := by simp [cs0]
 obtain ⟨r, g1, g2, g3, g4⟩ := fill_rowW hsz h parts.toList xs 0 n cs0 h1 hcs0 (by omega) hmemS
 have hrun : (execOp a.eval o).run P w = .ok (.value (.slice (some ⟨w.heap.size, 0, none⟩) n n)) (w.alloc (.cells r e)) := by
  have hfill : Instr.fill (fun i => some (i * sz, sz)) cs0 ((parts.map fun x => (x.1, a.eval x.2)).toList) = some r := by
   rw [Array.toList_map]; exact g1
  have h24 : ¬ (n * sz > 2 ^ 24) := by omega
  simp only [execOp, ho, Instr.buildSlice, Sem.run_bind, Sem.run_pure, Result.andThen_ok, run_underlying hu, run_szOf hs, if_neg h24]
  by_cases hz0 : n * sz = 0
  ·simp only [cs0, hz0, if_true] at hfill
   simp only [hz0, if_true, Sem.run_bind, Sem.run_pure, Result.andThen_ok, hfill]
   simp [newRow]
  ·simp only [cs0, hz0, if_false] at hfill
   have hzv : (zeroValue e).run P w = .ok zv w := by simp [zeroValue, typeInfo, hi, hz]
   simp only [hz0, if_false, Sem.run_bind, Sem.run_pure, Result.andThen_ok, hzv, hfill]
   simp [newRow]
 let C' : Nat → Nat → Prop := fun x k => C x k ∨ (x = w.heap.size ∧ k < n * sz)
 have hC : ∀ x k, C x k → C' x k := fun x k hx => .inl hx
 have hbel := below_alloc w (.cells r e)
 have h' : Rel N C0 w0 σ a (w.alloc (.cells r e)) C' m tk own := by
  refine h.later hbel hC ?_ ?_
  ·rintro x k (hx | ⟨rfl, _⟩)
   ·exact .inl hx
   ·exact .inr (Nat.le_refl _)
  ·rintro x k (hx | ⟨rfl, _⟩)
   ·have := h.cval x k hx; simp; omega
   ·simp
 have hs' : Same C w (w.alloc (.cells r e)) := same_of_below h.cval hbel
 refine ⟨_, _, C', m, tk, own, .inl hrun, h', ?_⟩
 simp only [vval]
 refine ⟨w.heap.size, fun j => r[j]?.getD undef, by rw [h2], by rw [flatW_length hsE, evs_length], fun j c hj => ?_⟩
 have hjlt : j < n * sz := by
  have := (List.getElem?_eq_some_iff.1 hj).1
  rw [flatW_length hsE, evs_length, h2] at this
  exact this
 obtain ⟨i', e', j', c0, q1, rfl, q3, rfl⟩ := flatW_get hsE hj
 rw [evs_get] at q1
 obtain ⟨y, hy, rfl⟩ := Option.map_eq_some_iff.1 q1
 obtain ⟨p1, p2, p3⟩ := g4 i' y hy j' c0 q3
 rw [Nat.zero_add] at p2 p3
 refine ⟨.inr ⟨rfl, hjlt⟩, ?_, shr_isCell p1, p2, ?_⟩
 ·rw [World.cell?_alloc_new]
  have : i' * sz + j' < r.size := by rw [g2, hcs0]; exact hjlt
  simp [this]
 ·exact (rep_shr p3 p1 p2).mono hC hs'
theorem fill_structW {t : TypeId} {pl : Array (Nat × Nat)} (hpl : ∀ i o ft s, fldOf P t i = some (o, ft) → szOf P ft = some s → pl[i]? = some (o, s)) (h : Rel N C0 w0 σ a w C m tk own) :
  ∀ (ps : List (Nat × Operand)) (ys : List (Nat × Nat × VO)) (cs : Array Value) (zs : List AV), fldsOK P t ps ys = true → cs.size = zs.length → fillWOk σ zs.length ys →
  (∀ (j : Nat) (c : AV), zs[j]? = some c → c.isCell = true ∧ (cs[j]?.getD undef).oneCell' = true ∧ Rep1 C w m (cs[j]?.getD undef) c) →
  ∃ r, Instr.fill (pl[·]?) cs (ps.map fun p => (p.1, a.eval p.2)) = some r ∧ r.size = (fillW σ zs ys).length ∧
   ∀ (j : Nat) (c : AV), (fillW σ zs ys)[j]? = some c → c.isCell = true ∧ (r[j]?.getD undef).oneCell' = true ∧ Rep1 C w m (r[j]?.getD undef) c
 | [], [], cs, zs, _, hsz, _, hr => ⟨cs, rfl, hsz, hr⟩
 | [], _ :: _, _, _, hp, _, _, _ => by simp [fldsOK] at hp
 | _ :: _, [], _, _, hp, _, _, _ => by simp [fldsOK] at hp
 | (i0, x) :: ps, (off, sz, y) :: ys, cs, zs, hp, hsz, hok, hr => by
  simp only [fldsOK, Bool.and_eq_true] at hp
  obtain ⟨⟨h1, h2⟩, h3⟩ := hp
  split at h1 <;> first | (simp at h1; done) | skip
  rename_i o1 ft hf
  simp only [Bool.and_eq_true, beq_iff_eq] at h1
  obtain ⟨rfl, hs⟩ := h1
  obtain ⟨k1, k2, k3, k4⟩ := hok
  obtain ⟨c1, c2⟩ := rep_cells h (opd_rep h h2) k1
  have hvs : (a.eval x).cells.size = sz := by omega
  obtain ⟨f1, f2⟩ := fold_cells (a.eval x) o1 cs
  have hl2 : (setAt zs o1 ((ev σ y).cells.map AV.shr)).length = zs.length := setAt_length _ _ _ (by simp; omega)
  obtain ⟨r, g1, g2, g3⟩ := fill_structW hpl h ps ys _ (setAt zs o1 ((ev σ y).cells.map AV.shr)) h3 (by rw [f1, hl2]; exact hsz) (by rw [hl2]; exact k4) (fun j c hj => by
   rw [setAt_get _ _ _ _ (by simp; omega)] at hj
   rw [f2 j]
   simp only [List.length_map] at hj
   by_cases hjj : o1 ≤ j ∧ j < o1 + (ev σ y).cells.length
   ·rw [if_pos hjj, List.getElem?_map] at hj
    obtain ⟨c0, hj0, rfl⟩ := Option.map_eq_some_iff.1 hj
    rw [if_pos (by omega)]
    obtain ⟨d1, d2, d3⟩ := c2 _ _ hj0
    exact ⟨shr_isCell d1, d2, rep_shr d3 d1 d2⟩
   ·rw [if_neg hjj] at hj
    rw [if_neg (by omega)]
    exact hr _ _ hj)
  refine ⟨r, ?_, g2, g3⟩
  simp only [List.map_cons, Instr.fill, hpl _ _ _ _ hf hs]
  rw [if_neg (by simp [hvs]; omega)]
  exact g1
theorem rep0_rep1 {v : Value} {c : AV} (h : Rep0 C w v c) : Rep1 C w m v c := by
 cases h with
 | und v h => exact .und v h
 | nul => exact .nul
 | int n => exact .int n
 | bool b => exact .bool b
 | agg vs cs hn hk h => exact .agg vs cs hn hk h
 | sl0 a cap sz => exact .sl0 a cap sz
 | sl blk o n cap sz es f hn hcap hsz hk hc hv hka hr => exact .sl blk o n cap sz es f hn hcap hsz hk hc hv hka hr
 | ref blk o sz i off k es f hk0 hsz hk hc hv hka hr => exact .ref blk o sz i off k es f hk0 hsz hk hc hv hka hr
 | clo f vf vc first caps hf hc h1 h2 => exact .clo f vf vc first caps hf hc h1 h2
 | yld l => exact .yld l
 | mpr l => exact .mpr l
 | nilp => exact .nilp
 | un b => exact .un b
 | full v a sz es h hv => exact .full v a sz es h hv
 | tup vs cs hn h => exact .tup vs cs hn h
theorem s_buildW {o : Oper} (h : Rel N C0 w0 σ a w C m tk own) {z : List AV} {ys : List (Nat × Nat × VO)} (hm : mop2 P o.op (.buildW z ys) = true) (hc : vcond (.buildW z ys) σ) : Quiet P o a w C m tk (vval (.buildW z ys) σ) := by
 cases ho : o.op <;> rw [ho] at hm <;> first | (simp [mop2] at hm; done) | skip
 rename_i t parts
 simp only [mop2, Bool.and_eq_true] at hm
 obtain ⟨⟨h1, h2⟩, h3⟩ := hm
 split at h3 <;> first | (simp at h3; done) | skip
 rename_i i hi
 split at h3 <;> first | (simp at h3; done) | skip
 rename_i zv hz
 have hus : ∃ fs, P.underlying t = some (.struct fs) := by
  unfold structOK at h2
  cases hq : P.underlying t with
  | none => simp [hq] at h2
  | some d => cases d <;> simp [hq] at h2; exact ⟨_, rfl⟩
 obtain ⟨fs, hu⟩ := hus
 obtain ⟨pl, hpl1, hpl2⟩ := run_places h2 hu w
 obtain ⟨k1, k2⟩ := constCs0_spec (C := C) (w := w) _ _ h3
 obtain ⟨r, g1, g2, g3⟩ := fill_structW hpl2 h parts.toList ys zv.cells z h1 (by simpa using k1) hc (fun j c hj => by
  have := k2 j c hj
  simp only [Array.getElem?_toList] at this
  exact ⟨this.1, this.2.oneCell this.1, rep0_rep1 this.2⟩)
 refine quiet_of (v := .agg r) ?_ ?_
 ·simp only [bind_pure_comp] at hpl1
  simp [execOp, ho, Instr.build, zeroValue, typeInfo, hi, hz, run_underlying hu, hpl1, g1]
 ·exact ⟨r, rfl, g2, g3⟩
theorem tidy1_rep (h : Rel N C0 w0 σ a w C m tk own) {v : Value} {av : AV} (hv : Rep C w m tk v av) : Rep C w m tk v (tidy1 σ.hp av) := by
 cases av <;> first | exact hv | skip
 ·rename_i b off
  simp only [tidy1]
  split
  ·rename_i cells hg
   have := strip1_rep h hv (fun cs e => by cases e)
   simp only [strip1, hg] at this
   exact this (by simp)
  ·exact hv
 ·rename_i b off sz n ag
  simp only [tidy1]
  split
  ·rename_i cells hg
   split
   ·rename_i hcond
    have := strip1_rep h hv (fun cs e => by cases e)
    simp only [strip1, hg, if_pos hcond] at this
    exact this (by simp)
   ·exact hv
  ·exact hv
 ·rename_i b i u sz n ag
  simp only [tidy1]
  split
  ·rename_i cells hg
   split
   ·rename_i hcond
    have := strip1_rep h hv (fun cs e => by cases e)
    simp only [strip1, hg, if_pos hcond] at this
    exact this (by simp)
   ·exact hv
  ·exact hv
theorem tidy1_rep1 (h : Rel N C0 w0 σ a w C m tk own) {v : Value} {av : AV} (hv : Rep1 C w m v av) : Rep1 C w m v (tidy1 σ.hp av) := by
 cases av <;> first | exact hv | skip
 ·rename_i b off
  simp only [tidy1]
  split
  ·rename_i cells hg
   have := strip1_rep h (rep1_toRep hv) (fun cs e => by cases e)
   simp only [strip1, hg] at this
   exact this (by simp)
  ·exact hv
 ·rename_i b off sz n ag
  simp only [tidy1]
  split
  ·rename_i cells hg
   split
   ·rename_i hcond
    have := strip1_rep h (rep1_toRep hv) (fun cs e => by cases e)
    simp only [strip1, hg, if_pos hcond] at this
    exact this (by simp)
   ·exact hv
  ·exact hv
 ·rename_i b i u sz n ag
  simp only [tidy1]
  split
  ·rename_i cells hg
   split
   ·rename_i hcond
    have := strip1_rep h (rep1_toRep hv) (fun cs e => by cases e)
    simp only [strip1, hg, if_pos hcond] at this
    exact this (by simp)
   ·exact hv
  ·exact hv
theorem tidy1_isCell {hp : List (Nat × BX)} {av : AV} (h : av.isCell = true) : (tidy1 hp av).isCell = true := by
 cases av <;> first | exact h | skip
 all_goals
  simp only [tidy1]
  split
  ·first | rfl | (split <;> rfl)
  ·rfl
theorem tidy_rep (h : Rel N C0 w0 σ a w C m tk own) {v : Value} {av : AV} (hv : Rep C w m tk v av) : Rep C w m tk v (tidy σ.hp av) := by
 cases av <;> first | exact tidy1_rep h hv | skip
 obtain ⟨vs, h1, h2, h3⟩ := hv
 refine ⟨vs, h1, by simpa using h2, fun j c hj => ?_⟩
 rw [List.getElem?_map] at hj
 obtain ⟨c0, hj0, rfl⟩ := Option.map_eq_some_iff.1 hj
 obtain ⟨k1, k2, k3⟩ := h3 j c0 hj0
 exact ⟨tidy1_isCell k1, k2, tidy1_rep1 h k3⟩
theorem tidy_isCell {hp : List (Nat × BX)} {av : AV} (h : av.isCell = true) : (tidy hp av).isCell = true := by
 have e : tidy hp av = tidy1 hp av := by cases av <;> first | rfl | (simp [AV.isCell] at h)
 rw [e]
 exact tidy1_isCell h
theorem tidy_rep0 {hp : List (Nat × BX)} {v : Value} {av : AV} (h : Rep0 C w v av) : tidy hp av = av := by
 cases h <;> rfl
theorem get_tidyFr (hp : List (Nat × BX)) : ∀ (fr : List (Nat × AV)) (t : Nat), get (tidyFr hp fr) t = tidy hp (get fr t)
 | [], t => rfl
 | (s, v) :: r, t => by
  simp only [tidyFr, get]
  split
  ·rfl
  ·exact get_tidyFr hp r t
theorem getB_tidyHp (hp : List (Nat × BX)) : ∀ (l : List (Nat × BX)) (b : Nat), getB (tidyHp hp l) b = (getB l b).map fun x => ⟨x.cells.map (tidy hp), x.frz⟩
 | [], b => rfl
 | (s, v) :: r, b => by
  simp only [tidyHp, getB]
  split
  ·rfl
  ·exact getB_tidyHp hp r b
theorem Rel.tidy (h : Rel N C0 w0 σ a w C m tk own) : Rel N C0 w0 { σ with fr := tidyFr σ.hp σ.fr, hp := tidyHp σ.hp σ.hp } a w C m tk own := by
 refine { gf := h.gf, below := h.below, c0 := h.c0, cnew := h.cnew, cval := h.cval, nc := h.nc, ext := h.ext, size := h.size, slots := fun t => ?_, boxes := ?_, mdom := ?_, toks := h.toks, tdom := h.tdom, owned := h.owned, owns := h.owns }
 ·rw [get_tidyFr]
  exact tidy_rep h (h.slots t)
 ·intro b bx hb
  rw [getB_tidyHp] at hb
  obtain ⟨bx0, hb0, rfl⟩ := Option.map_eq_some_iff.1 hb
  obtain ⟨blk, e1, e2⟩ := h.boxes b bx0 hb0
  refine ⟨blk, e1, ?_⟩
  unfold BoxOK at e2 ⊢
  cases hf : bx0.frz with
  | true =>
   simp only [hf] at e2 ⊢
   intro j av hj
   rw [List.getElem?_map] at hj
   obtain ⟨c0, hj0, rfl⟩ := Option.map_eq_some_iff.1 hj
   obtain ⟨f1, f2, v, f3, f4⟩ := e2 j c0 hj0
   rw [tidy_rep0 f4]
   exact ⟨f1, f2, v, f3, f4⟩
  | false =>
   simp only [hf] at e2 ⊢
   rcases e2 with ⟨e2, e3⟩ | e2
   ·exact .inl ⟨by rw [e2]; rfl, e3⟩
   obtain ⟨f1, f2, f3, vs', ty', f4, f5, f6⟩ := e2
   refine .inr ⟨f1, f2, f3, vs', ty', f4, by simpa using f5, fun j av hj => ?_⟩
   rw [List.getElem?_map] at hj
   obtain ⟨c0, hj0, rfl⟩ := Option.map_eq_some_iff.1 hj
   obtain ⟨g1, g2, g3⟩ := f6 j c0 hj0
   exact ⟨tidy_isCell g1, g2, tidy_rep h g3⟩
 ·intro b blk hb
  rw [getB_tidyHp]
  have := h.mdom b blk hb
  cases hq : getB σ.hp b with
  | none => rw [hq] at this; simp at this
  | some x => rfl
theorem Rel.nrm (h : Rel N C0 w0 σ a w C m tk own) (bs : List Nat) : ∃ C' own', Rel N C0 w0 (nrm bs σ) a w C' m tk own' := by
 obtain ⟨C', own', h', _⟩ := h.frzL bs
 exact ⟨C', own', h'.tidy⟩
end
end Go.V

set_option linter.unusedSimpArgs false
set_option linter.unusedVariables false
set_option linter.unnecessarySimpa false
namespace Go.V
open Go Go.RowKit
inductive Ef where
 | none
 | box (b : Nat) (x : BX)
 | sto (b : Nat) (x : BX)
 | tokN (k n : Nat)
 | tokS (k n : Nat)
 | g (b i v : Nat) (x : BX) (dead : Option Nat)
 | gs (b : Nat) (l : List (Nat × Nat × BX))
def deadB (dead : Option Nat) (b i : Nat) (hp : List (Nat × BX)) : List (Nat × BX) :=
 match dead with
 | some v => setB (K b i v) ⟨[], true⟩ hp
 | none => hp
def apE (e : Ef) (σ : AS) : AS :=
 match e with
 | .none => σ
 | .box b x => { σ with hp := (b, x) :: σ.hp }
 | .sto b x => { σ with hp := setB b x σ.hp }
 | .tokN k n => { σ with tk := (k, n) :: σ.tk }
 | .tokS k n => { σ with tk := setT k n σ.tk }
 | .g b i v x dead => { σ with hp := (K b i v, x) :: deadB dead b i σ.hp }
 | .gs b l => { σ with hp := gsB b l ++ σ.hp }
def eff (op : VOp) (σ : AS) : Ef :=
 match op with
 | .nils k _ => .tokN k 0
 | .alloc b z => .box b ⟨z, false⟩
 | .box b _ x => .box b ⟨(ev σ x).cells, false⟩
 | .store _ p x _ =>
  match ev σ p with
  | .ptr b off => match getB σ.hp b with
   | some bx => .sto b ⟨setAt bx.cells off (ev σ x).cells, false⟩
   | none => .none
  | _ => .none
 | .makes b _ _ _ z x => .box b ⟨zeros z (ev σ x).toInt.toNat, false⟩
 | .make0 k _ _ _ => .tokN k 0
 | .nilsG b ix _ _ => .g b (dynI σ ix) 0 ⟨[], false⟩ none
 | .appG b0 ix _ _ _ x y =>
  match yInfo (ev σ y) with
  | none => .none
  | some (_, _, cs) =>
   match ev σ x with
   | .gsl b i v _ _ _ => .g b i (v + 1) ⟨((getB σ.hp (K b i v)).map (·.cells)).getD [] ++ cs, false⟩ (some v)
   | _ => .g b0 (dynI σ ix) 0 ⟨cs, false⟩ none
 | .app k0 _ _ x y =>
  match ev σ x, strip σ.hp (ev σ y) with
  | .sl _ es m, .sl _ fs _ =>
   match m with
   | .own k => .tokS k (es.length + fs.length)
   | _ => .tokN k0 (es.length + fs.length)
  | _, _ => .none
 | .calls _ b _ bs => .gs b bs
 | _ => .none
theorem frzS_nil (σ : AS) : frzS [] σ = σ := rfl
theorem vnext_eff {op : VOp} {σ : AS} (hd : dcond op σ) : vnext op σ = apE (eff op σ) σ := by
 cases op <;> try rfl
 case load n ag x avs =>
  simp only [dcond] at hd
  simp only [vnext, eff, apE]
  generalize ev σ x = u at *
  cases u <;> try rfl
  rename_i b off
  simp only at hd ⊢
  cases hg : getB σ.hp b with
  | none => rfl
  | some bx =>
   simp only [hg] at hd ⊢
   cases ag with
   | false => rfl
   | true => simp only [if_true]; rw [hd rfl]; rfl
 case store n p x ob =>
  simp only [vnext, eff]
  generalize ev σ p = u
  cases u <;> try rfl
  rename_i b off
  simp only
  cases hg : getB σ.hp b <;> rfl
 case app k0 sz by_ x y =>
  simp only [vnext, eff]
  generalize ev σ x = u
  generalize strip σ.hp (ev σ y) = v
  cases u <;> cases v <;> try rfl
  rename_i m _ _ _
  cases m <;> rfl
 case mkf f caps =>
  simp only [dcond] at hd
  simp only [vnext, eff, apE, hd]
  rfl
 case mkm f xs => exact hd.elim
 case appG b0 ix sz by_ ag x y =>
  simp only [vnext, eff]
  generalize yInfo (ev σ y) = u
  cases u with
  | none => rfl
  | some q =>
   simp only
   generalize ev σ x = v
   cases v <;> rfl
def VO.sl : VO → List Nat
 | .t n => [n]
 | .k _ => []
def sls : List VO → List Nat
 | [] => []
 | x :: r => x.sl ++ sls r
def optSl : Option VO → List Nat
 | some x => x.sl
 | none => []
def VOp.rd : VOp → List Nat
 | .nilsG _ ix _ _ => optSl ix
 | .appG _ ix _ _ _ x y => optSl ix ++ x.sl ++ y.sl
 | .bsliceW _ xs => sls xs
 | .buildW _ ps => sls (ps.map fun p => p.2.2)
 | .loadW _ x _ => x.sl
 | .mov x | .not x | .neg x | .box _ _ x | .load _ _ x _ | .fld _ x | .fieldV _ _ _ x | .makes _ _ _ _ _ x | .make0 _ _ _ x | .len x | .ext x _ | .nilck x | .nile x | .cvu x => x.sl
 | .bin _ x y | .store _ x y _ | .idx _ x y | .idxA _ _ x y | .indexV _ _ _ x y | .app _ _ _ x y | .min x y | .max x y => x.sl ++ y.sl
 | .pick c a b | .max3 c a b => c.sl ++ a.sl ++ b.sl
 | .build _ ps => sls (ps.map fun p => p.2.2)
 | .bslice _ xs | .mkf _ xs | .mkw _ xs | .call _ xs | .calli _ xs | .callb _ xs _ | .callL _ xs _ | .callt _ _ xs | .calls _ _ xs _ | .mkm _ xs => sls xs
 | .callv x xs | .callw x xs | .yield x xs => x.sl ++ sls xs
 | .slice _ x lo hi => x.sl ++ optSl lo ++ optSl hi
 | .sliceF _ x lo hi mx => x.sl ++ optSl lo ++ optSl hi ++ optSl mx
 | .sliceA _ _ _ x lo hi => x.sl ++ optSl lo ++ optSl hi
 | .nils _ _ | .alloc _ _ | .mmake _ _ => []
 | .mlook _ x k => x.sl ++ k.sl
theorem ev_congr {σ σ' : AS} {x : VO} (h : ∀ t ∈ x.sl, get σ'.fr t = get σ.fr t) : ev σ' x = ev σ x := by
 cases x with
 | t n => exact h n (by simp [VO.sl])
 | k v => rfl
theorem evs_congr {σ σ' : AS} {xs : List VO} (h : ∀ t ∈ sls xs, get σ'.fr t = get σ.fr t) : evs σ' xs = evs σ xs := by
 induction xs with
 | nil => rfl
 | cons x r ih =>
  simp only [evs]
  rw [ev_congr fun t ht => h t (by simp [sls, ht]), ih fun t ht => h t (by simp [sls, ht])]
theorem optInt_congr {σ σ' : AS} {x : Option VO} {d : Int} (h : ∀ t ∈ optSl x, get σ'.fr t = get σ.fr t) : optInt σ' d x = optInt σ d x := by
 cases x with
 | none => rfl
 | some x => exact ev_congr h
theorem strip1_bid {hp hp' : List (Nat × BX)} {v : AV} (h : v.bid1 = []) : strip1 hp' v = strip1 hp v := by
 cases v <;> first | rfl | (simp [AV.bid1] at h)
theorem strip_bid {hp hp' : List (Nat × BX)} {v : AV} (h : v.bid = []) : strip hp' v = strip hp v := by
 cases v <;> first | rfl | (simp [AV.bid, AV.bid1] at h; done) | skip
 rename_i cs
 simp only [AV.bid, List.flatMap_eq_nil_iff] at h
 simp only [strip]
 congr 1
 exact List.map_congr_left fun c hc => strip1_bid (h c hc)
theorem strips_bids {hp hp' : List (Nat × BX)} {l : List AV} (h : bids l = []) : strips hp' l = strips hp l := by
 induction l with
 | nil => rfl
 | cons x r ih =>
  simp only [bids, List.append_eq_nil_iff] at h
  simp only [strips]
  rw [strip_bid h.1, ih h.2]
theorem map_strip_bids {hp hp' : List (Nat × BX)} {l : List AV} (h : bids l = []) : l.map (strip hp') = l.map (strip hp) := by
 rw [← strips_eq, ← strips_eq, strips_bids h]
def VOp.at : VOp → AS → Option Nat
 | .load _ _ x _, σ | .store _ x _ _, σ | .loadW _ x _, σ =>
  match ev σ x with
  | .ptr b _ => some b
  | _ => none
 | .callb _ xs _, σ => (bids (evs σ xs)).head?
 | _, _ => none
def VOp.new : VOp → Option Nat
 | .alloc b _ | .box b _ _ | .makes b _ _ _ _ _ => some b
 | _ => none
def VOp.ldA : VOp → Option (List Nat)
 | .load _ _ _ avs => some avs
 | .loadW _ _ avs => some avs
 | .callb _ _ avs => some avs
 | _ => none
def VOp.fam : VOp → Option Nat
 | .nilsG b _ _ _ => some b
 | .appG b _ _ _ _ _ _ => some b
 | .calls _ b _ _ => some b
 | _ => none
def VOp.isTok : VOp → Bool
 | .app _ _ _ _ _ | .make0 _ _ _ _ | .nils _ _ => true
 | _ => false
theorem strip1_at {hp hp' : List (Nat × BX)} {b : Nat} (hg : getB hp' b = getB hp b) : ∀ {v : AV}, (∀ c ∈ v.bid1, c = b) → strip1 hp' v = strip1 hp v := by
 intro v h
 cases v with
 | ptr c off =>
  obtain rfl := h c (by simp [AV.bid1])
  simp only [strip1, hg]
 | bsl c off sz n ag =>
  obtain rfl := h c (by simp [AV.bid1])
  simp only [strip1, hg]
 | gsl c i v sz n ag =>
  have e := h (K c i v) (by simp [AV.bid1])
  simp only [strip1]
  rw [e, hg]
 | _ => rfl
theorem strip_at {hp hp' : List (Nat × BX)} {b : Nat} (hg : getB hp' b = getB hp b) {v : AV} (h : ∀ c ∈ v.bid, c = b) : strip hp' v = strip hp v := by
 cases v with
 | aggw cs =>
  simp only [strip]
  congr 1
  refine List.map_congr_left fun c hc => strip1_at hg fun x hx => h x ?_
  simp only [AV.bid, List.mem_flatMap]
  exact ⟨c, hc, hx⟩
 | ptr c off => exact strip1_at (v := .ptr c off) hg h
 | bsl c off sz n ag => exact strip1_at (v := .bsl c off sz n ag) hg h
 | gsl c i u sz n ag => exact strip1_at (v := .gsl c i u sz n ag) hg h
 | _ => rfl
theorem strips_at {hp hp' : List (Nat × BX)} {b : Nat} (hg : getB hp' b = getB hp b) : ∀ {l : List AV}, (∀ c ∈ bids l, c = b) → strips hp' l = strips hp l
 | [], _ => rfl
 | x :: r, h => by
  simp only [strips]
  rw [strip_at hg fun c hc => h c (by simp [bids, hc]), strips_at hg fun c hc => h c (by simp [bids, hc])]
theorem getB_frz1 {hp hp' : List (Nat × BX)} {b : Nat} {bx : BX} (hg : getB hp b = some bx) (hg' : getB hp' b = some bx) (hb : bids bx.cells = []) : getB (frz1 b hp') b = getB (frz1 b hp) b := by
 unfold frz1
 rw [hg, hg']
 obtain ⟨cells, fz⟩ := bx
 cases fz with
 | true => simp only; rw [hg, hg']
 | false =>
  simp only
  rw [getB_setB, getB_setB, if_pos rfl, if_pos rfl, map_strip_bids hb]
theorem strips_one {hp hp' : List (Nat × BX)} {b : Nat} {bx : BX} {l : List AV} (hl : bids l = [b]) (hg : getB hp b = some bx) (hg' : getB hp' b = some bx) (hb : bids bx.cells = []) : strips (frzL (bids l) hp') l = strips (frzL (bids l) hp) l := by
 rw [hl]
 simp only [frzL]
 exact strips_at (getB_frz1 hg hg' hb) fun c hc => by rw [hl] at hc; simpa using hc
structure Alike (op : VOp) (σ σ' : AS) : Prop where
 fr : ∀ t ∈ op.rd, get σ'.fr t = get σ.fr t
 hp : ∀ b, op.at σ = some b → getB σ'.hp b = getB σ.hp b
 new : ∀ b, op.new = some b → getB σ.hp b = none → getB σ'.hp b = none
 tk : op.isTok = true → ∀ k, getT σ'.tk k = getT σ.tk k
 gf : ∀ b, op.fam = some b → ∀ i v, getB σ'.hp (K b i v) = getB σ.hp (K b i v)
theorem fill_congr {hp hp' : List (Nat × BX)} {σ σ' : AS} : ∀ (ps : List (Nat × Nat × VO)) (z : List AV), (∀ t ∈ sls (ps.map fun p => p.2.2), get σ'.fr t = get σ.fr t) → bids (evs σ (ps.map fun p => p.2.2)) = [] →
  fillV hp' σ' z ps = fillV hp σ z ps ∧ ∀ n, fillOk hp σ n ps → fillOk hp' σ' n ps
 | [], z, _, _ => ⟨rfl, fun _ h => h⟩
 | (off, sz, x) :: r, z, h, hb => by
  simp only [List.map_cons, evs, bids, List.append_eq_nil_iff] at hb
  have e : strip hp' (ev σ' x) = strip hp (ev σ x) := by
   rw [ev_congr fun t ht => h t (by simp [sls, ht]), strip_bid hb.1]
  have ih := fun z => fill_congr (hp := hp) (hp' := hp') r z (fun t ht => h t (by simp only [List.map_cons, sls, List.mem_append]; exact .inr ht)) hb.2
  refine ⟨?_, fun n hn => ?_⟩
  ·simp only [fillV, e]
   exact (ih _).1
  ·simp only [fillOk] at hn ⊢
   rw [e]
   exact ⟨hn.1, hn.2.1, hn.2.2.1, (ih z).2 n hn.2.2.2⟩
theorem dynI_congr {σ σ' : AS} {ix : Option VO} (h : ∀ t ∈ optSl ix, get σ'.fr t = get σ.fr t) : dynI σ' ix = dynI σ ix := by
 cases ix with
 | none => rfl
 | some x => simp only [dynI]; rw [ev_congr h]
theorem fillW_congr {σ σ' : AS} : ∀ (ps : List (Nat × Nat × VO)) (z : List AV), (∀ t ∈ sls (ps.map fun p => p.2.2), get σ'.fr t = get σ.fr t) →
  fillW σ' z ps = fillW σ z ps ∧ ∀ n, fillWOk σ n ps → fillWOk σ' n ps
 | [], z, _ => ⟨rfl, fun _ h => h⟩
 | (off, sz, x) :: r, z, h => by
  have e : ev σ' x = ev σ x := ev_congr fun t ht => h t (by simp [sls, ht])
  have ih := fun z => fillW_congr (σ := σ) (σ' := σ') r z (fun t ht => h t (by simp only [List.map_cons, sls, List.mem_append]; exact .inr ht))
  refine ⟨?_, fun n hn => ?_⟩
  ·simp only [fillW, e]
   exact (ih _).1
  ·simp only [fillWOk] at hn ⊢
   rw [e]
   exact ⟨hn.1, hn.2.1, hn.2.2.1, (ih z).2 n hn.2.2.2⟩
theorem alike_op {op : VOp} {σ σ' : AS} (h : Alike op σ σ') (hd : dcond op σ) (hc : vcond op σ) : vcond op σ' ∧ dcond op σ' ∧ vval op σ' = vval op σ ∧ eff op σ' = eff op σ := by
 obtain ⟨hfr, hhp, hnew, htk, hgf⟩ := h
 have m1 : ∀ {x y : List Nat} {t : Nat}, t ∈ x → t ∈ x ++ y := fun h => List.mem_append.2 (.inl h)
 have m2 : ∀ {x y : List Nat} {t : Nat}, t ∈ y → t ∈ x ++ y := fun h => List.mem_append.2 (.inr h)
 cases op with
 | mov x => have e := ev_congr (σ := σ) (σ' := σ') (x := x) hfr; exact ⟨trivial, trivial, e, rfl⟩
 | bin k x y =>
  have e1 := ev_congr (σ := σ) (σ' := σ') (x := x) fun t ht => hfr t (m1 ht)
  have e2 := ev_congr (σ := σ) (σ' := σ') (x := y) fun t ht => hfr t (m2 ht)
  simp only [vcond, dcond, vval, eff, e1, e2] at hc ⊢
  exact ⟨hc, trivial, trivial, trivial⟩
 | not x => have e := ev_congr (σ := σ) (σ' := σ') (x := x) hfr; simp only [vcond, dcond, vval, eff, e] at hc ⊢; exact ⟨hc, trivial, trivial, trivial⟩
 | neg x => have e := ev_congr (σ := σ) (σ' := σ') (x := x) hfr; simp only [vcond, dcond, vval, eff, e] at hc ⊢; exact ⟨hc, trivial, trivial, trivial⟩
 | pick c x y =>
  have e0 := ev_congr (σ := σ) (σ' := σ') (x := c) fun t ht => hfr t (m1 (m1 ht))
  have e1 := ev_congr (σ := σ) (σ' := σ') (x := x) fun t ht => hfr t (m1 (m2 ht))
  have e2 := ev_congr (σ := σ) (σ' := σ') (x := y) fun t ht => hfr t (m2 ht)
  simp only [vcond, dcond, vval, eff, e0, e1, e2] at hc ⊢
  exact ⟨hc, trivial, trivial, trivial⟩
 | nils k sz =>
  simp only [vcond, dcond, vval, eff] at hc ⊢
  rw [htk rfl]
  exact ⟨hc, trivial, trivial, trivial⟩
 | alloc b z =>
  simp only [vcond, dcond, vval, eff] at hc ⊢
  exact ⟨hnew b rfl hc, trivial, trivial, trivial⟩
 | box b n x =>
  have e := ev_congr (σ := σ) (σ' := σ') (x := x) hfr
  simp only [vcond, dcond, vval, eff, e] at hc ⊢
  exact ⟨⟨hnew b rfl hc.1, hc.2⟩, trivial, trivial, trivial⟩
 | load n ag x avs =>
  have e := ev_congr (σ := σ) (σ' := σ') (x := x) hfr
  simp only [VOp.at] at hhp
  simp only [vcond, dcond, vval, eff, e] at hc hd ⊢
  generalize ev σ x = u at *
  cases u <;> first | exact hc.elim | skip
  ·exact ⟨hc, trivial, rfl, trivial⟩
  rename_i b off
  simp only at hc hd hhp ⊢
  rw [hhp b rfl]
  cases hg : getB σ.hp b with
  | none => simp [hg] at hc
  | some bx =>
   simp only [hg] at hc hd ⊢
   refine ⟨hc, hd, ?_, trivial⟩
   cases ag with
   | false => rfl
   | true =>
    simp only [if_true]
    rw [hd rfl]
    simp only [frzL]
    rw [map_strip_bids (hd rfl)]
 | store n p x ob =>
  have e1 := ev_congr (σ := σ) (σ' := σ') (x := p) fun t ht => hfr t (m1 ht)
  have e2 := ev_congr (σ := σ) (σ' := σ') (x := x) fun t ht => hfr t (m2 ht)
  simp only [VOp.at] at hhp
  simp only [vcond, dcond, vval, eff, e1, e2] at hc hd ⊢
  generalize ev σ p = u at *
  cases u <;> first | exact hc.elim | skip
  rename_i b off
  simp only at hc hhp ⊢
  rw [hhp b rfl]
  exact ⟨hc, trivial, trivial, rfl⟩
 | fld off x => have e := ev_congr (σ := σ) (σ' := σ') (x := x) hfr; simp only [vcond, dcond, vval, eff, e] at hc ⊢; exact ⟨hc, trivial, trivial, trivial⟩
 | idx sz x y =>
  have e1 := ev_congr (σ := σ) (σ' := σ') (x := x) fun t ht => hfr t (m1 ht)
  have e2 := ev_congr (σ := σ) (σ' := σ') (x := y) fun t ht => hfr t (m2 ht)
  simp only [vcond, dcond, vval, eff, e1, e2] at hc ⊢
  exact ⟨hc, trivial, trivial, trivial⟩
 | idxA n sz x y =>
  have e1 := ev_congr (σ := σ) (σ' := σ') (x := x) fun t ht => hfr t (m1 ht)
  have e2 := ev_congr (σ := σ) (σ' := σ') (x := y) fun t ht => hfr t (m2 ht)
  simp only [vcond, dcond, vval, eff, e1, e2] at hc ⊢
  exact ⟨hc, trivial, trivial, trivial⟩
 | fieldV off n ag x => have e := ev_congr (σ := σ) (σ' := σ') (x := x) hfr; simp only [vcond, dcond, vval, eff, e] at hc ⊢; exact ⟨hc, trivial, trivial, trivial⟩
 | indexV n sz ag x y =>
  have e1 := ev_congr (σ := σ) (σ' := σ') (x := x) fun t ht => hfr t (m1 ht)
  have e2 := ev_congr (σ := σ) (σ' := σ') (x := y) fun t ht => hfr t (m2 ht)
  simp only [vcond, dcond, vval, eff, e1, e2] at hc ⊢
  exact ⟨hc, trivial, trivial, trivial⟩
 | build z ps =>
  simp only [VOp.rd] at hfr
  simp only [dcond] at hd
  have e := fill_congr (hp := σ.hp) (hp' := σ'.hp) ps z hfr hd
  simp only [vcond, dcond, vval, eff] at hc ⊢
  exact ⟨e.2 _ hc, by rw [evs_congr hfr]; exact hd, by rw [e.1], trivial⟩
 | bslice sz xs =>
  simp only [VOp.rd] at hfr
  have e := evs_congr hfr
  simp only [vcond, dcond, vval, eff, e] at hc hd ⊢
  rw [strips_bids (hp := σ.hp) hd]
  exact ⟨hc, hd, rfl, trivial⟩
 | makes b sz by_ ag z x =>
  have e := ev_congr (σ := σ) (σ' := σ') (x := x) hfr
  simp only [vcond, dcond, vval, eff, e] at hc ⊢
  generalize ev σ x = u at *
  cases u <;> first | exact hc.elim | skip
  exact ⟨⟨hnew b rfl hc.1, hc.2⟩, trivial, trivial, trivial⟩
 | make0 k sz by_ x =>
  have e := ev_congr (σ := σ) (σ' := σ') (x := x) hfr
  simp only [vcond, dcond, vval, eff, e] at hc ⊢
  generalize ev σ x = u at *
  cases u <;> first | exact hc.elim | skip
  simp only at hc ⊢
  rw [htk rfl]
  exact ⟨hc, trivial, trivial, trivial⟩
 | app k0 sz by_ x y =>
  have e1 := ev_congr (σ := σ) (σ' := σ') (x := x) fun t ht => hfr t (m1 ht)
  have e2 := ev_congr (σ := σ) (σ' := σ') (x := y) fun t ht => hfr t (m2 ht)
  simp only [vcond, dcond, vval, eff, e1, e2] at hc hd ⊢
  rw [strip_bid (hp := σ.hp) hd]
  refine ⟨?_, hd, rfl, rfl⟩
  generalize ev σ x = u at *
  generalize strip σ.hp (ev σ y) = v at *
  cases u <;> first | exact hc.elim | skip
  cases v <;> first | exact hc.elim | skip
  simp only at hc ⊢
  refine ⟨hc.1, hc.2.1, hc.2.2.1, ?_⟩
  rename_i md _ _ _
  cases md with
  | sh => exact hc.2.2.2
  | full => simp only at hc ⊢; rw [htk rfl]; exact hc.2.2.2
  | own k => simp only at hc ⊢; rw [htk rfl]; exact hc.2.2.2
 | slice sz x lo hi =>
  have e1 := ev_congr (σ := σ) (σ' := σ') (x := x) fun t ht => hfr t (m1 (m1 ht))
  have e2 : ∀ d, optInt σ' d lo = optInt σ d lo := fun d => optInt_congr fun t ht => hfr t (m1 (m2 ht))
  have e3 : ∀ d, optInt σ' d hi = optInt σ d hi := fun d => optInt_congr fun t ht => hfr t (m2 ht)
  simp only [vcond, dcond, vval, eff, e1, e2, e3] at hc ⊢
  exact ⟨hc, trivial, trivial, trivial⟩
 | sliceF sz x lo hi mx =>
  have e1 := ev_congr (σ := σ) (σ' := σ') (x := x) fun t ht => hfr t (m1 (m1 (m1 ht)))
  have e2 : ∀ d, optInt σ' d lo = optInt σ d lo := fun d => optInt_congr fun t ht => hfr t (m1 (m1 (m2 ht)))
  have e3 : ∀ d, optInt σ' d hi = optInt σ d hi := fun d => optInt_congr fun t ht => hfr t (m1 (m2 ht))
  have e4 : ∀ d, optInt σ' d mx = optInt σ d mx := fun d => optInt_congr fun t ht => hfr t (m2 ht)
  simp only [vcond, dcond, vval, eff, e1, e2, e3, e4] at hc ⊢
  exact ⟨hc, trivial, trivial, trivial⟩
 | sliceA n sz ag x lo hi =>
  have e1 := ev_congr (σ := σ) (σ' := σ') (x := x) fun t ht => hfr t (m1 (m1 ht))
  have e2 : ∀ d, optInt σ' d lo = optInt σ d lo := fun d => optInt_congr fun t ht => hfr t (m1 (m2 ht))
  have e3 : ∀ d, optInt σ' d hi = optInt σ d hi := fun d => optInt_congr fun t ht => hfr t (m2 ht)
  simp only [vcond, dcond, vval, eff, e1, e2, e3] at hc ⊢
  exact ⟨hc, trivial, trivial, trivial⟩
 | len x => have e := ev_congr (σ := σ) (σ' := σ') (x := x) hfr; simp only [vcond, dcond, vval, eff, e] at hc ⊢; exact ⟨hc, trivial, trivial, trivial⟩
 | min x y =>
  have e1 := ev_congr (σ := σ) (σ' := σ') (x := x) fun t ht => hfr t (m1 ht)
  have e2 := ev_congr (σ := σ) (σ' := σ') (x := y) fun t ht => hfr t (m2 ht)
  simp only [vcond, dcond, vval, eff, e1, e2] at hc ⊢
  exact ⟨hc, trivial, trivial, trivial⟩
 | max x y =>
  have e1 := ev_congr (σ := σ) (σ' := σ') (x := x) fun t ht => hfr t (m1 ht)
  have e2 := ev_congr (σ := σ) (σ' := σ') (x := y) fun t ht => hfr t (m2 ht)
  simp only [vcond, dcond, vval, eff, e1, e2] at hc ⊢
  exact ⟨hc, trivial, trivial, trivial⟩
 | max3 x y z =>
  have e1 := ev_congr (σ := σ) (σ' := σ') (x := x) fun t ht => hfr t (m1 (m1 ht))
  have e2 := ev_congr (σ := σ) (σ' := σ') (x := y) fun t ht => hfr t (m1 (m2 ht))
  have e3 := ev_congr (σ := σ) (σ' := σ') (x := z) fun t ht => hfr t (m2 ht)
  simp only [vcond, dcond, vval, eff, e1, e2, e3] at hc ⊢
  exact ⟨hc, trivial, trivial, trivial⟩
 | ext x i => have e := ev_congr (σ := σ) (σ' := σ') (x := x) hfr; simp only [vcond, dcond, vval, eff, e] at hc ⊢; exact ⟨hc, trivial, trivial, trivial⟩
 | mmake t n => exact hc.elim
 | mlook t x k => exact hc.elim
 | cvu x => have e := ev_congr (σ := σ) (σ' := σ') (x := x) hfr; simp only [vcond, dcond, vval, eff, e] at hc ⊢; exact ⟨hc, trivial, trivial, trivial⟩
 | nile x => have e := ev_congr (σ := σ) (σ' := σ') (x := x) hfr; simp only [vcond, dcond, vval, eff, e] at hc ⊢; exact ⟨hc, trivial, trivial, trivial⟩
 | nilck x => have e := ev_congr (σ := σ) (σ' := σ') (x := x) hfr; simp only [vcond, dcond, vval, eff, e] at hc ⊢; exact ⟨hc, trivial, trivial, trivial⟩
 | mkf f caps =>
  simp only [VOp.rd] at hfr
  have e := evs_congr hfr
  simp only [vcond, dcond, vval, eff, e] at hc hd ⊢
  rw [hd] at hc ⊢
  simp only [frzL] at hc ⊢
  rw [strips_bids (hp := σ.hp) hd]
  exact ⟨hc, trivial, rfl, trivial⟩
 | nilsG b ix sz ag =>
  have e := dynI_congr (σ := σ) (σ' := σ') (ix := ix) hfr
  simp only [vcond, dcond, vval, eff, e] at hc ⊢
  rw [hgf b rfl]
  exact ⟨hc, trivial, trivial, trivial⟩
 | appG b0 ix sz by_ ag x y =>
  have e0 := dynI_congr (σ := σ) (σ' := σ') (ix := ix) fun t ht => hfr t (m1 (m1 ht))
  have e1 := ev_congr (σ := σ) (σ' := σ') (x := x) fun t ht => hfr t (m1 (m2 ht))
  have e2 := ev_congr (σ := σ) (σ' := σ') (x := y) fun t ht => hfr t (m2 ht)
  simp only [vcond, dcond, vval, eff, e0, e1, e2] at hc ⊢
  generalize yInfo (ev σ y) = u at *
  cases u with
  | none => exact hc.elim
  | some q =>
   simp only at hc ⊢
   obtain ⟨hc1, hc2⟩ := hc
   generalize ev σ x = v at *
   split at hc2 <;> first | exact hc2.elim | skip
   ·rename_i b i v sz' n ag'
    obtain ⟨rfl, h2, h3, h4, h5, h6⟩ := hc2
    simp only
    rw [hgf b rfl, hgf b rfl]
    exact ⟨⟨hc1, trivial, h2, h3, h4, h5, h6⟩, trivial, trivial, rfl⟩
   ·obtain ⟨h2, h3, h4⟩ := hc2
    simp only
    rw [hgf b0 rfl]
    exact ⟨⟨hc1, h2, h3, h4⟩, trivial, trivial, trivial⟩
 | bsliceW sz xs =>
  simp only [VOp.rd] at hfr
  have e := evs_congr hfr
  simp only [vcond, dcond, vval, eff, e] at hc hd ⊢
  exact ⟨hc, trivial, trivial, trivial⟩
 | buildW z ps =>
  simp only [VOp.rd] at hfr
  have e := fillW_congr (σ := σ) (σ' := σ') ps z hfr
  simp only [vcond, dcond, vval, eff] at hc ⊢
  exact ⟨e.2 _ hc, trivial, by rw [e.1], trivial⟩
 | loadW n x avs =>
  have e := ev_congr (σ := σ) (σ' := σ') (x := x) hfr
  simp only [VOp.at] at hhp
  simp only [vcond, dcond, vval, eff, e] at hc hd ⊢
  generalize ev σ x = u at *
  cases u <;> first | exact hc.elim | skip
  rename_i b off
  simp only at hc hhp ⊢
  rw [hhp b rfl]
  exact ⟨hc, trivial, rfl, trivial⟩
 | mkw f caps => exact hd.elim
 | call f xs => exact hc.elim
 | callv x xs => exact hc.elim
 | calli f xs => exact hc.elim
 | callb f xs avs => exact hc.elim
 | callL f xs avs => exact hc.elim
 | callt f i xs => exact hc.elim
 | calls f b xs bs => exact hc.elim
 | mkm f xs => exact hd.elim
 | callw x xs => exact hc.elim
 | yield x xs => exact hc.elim
end Go.V

set_option linter.unusedSimpArgs false
set_option linter.unusedVariables false
set_option linter.unnecessarySimpa false
namespace Go.V
open Go Go.RowKit
section
variable (P : Program)
def Yld (op : VOp) (σ : AS) (v : AV) : Prop :=
 match op with
 | .call f xs => bids (evs σ xs) = [] ∧ noUnd (strips [] (evs σ xs)) ∧ Ctr P f (strips [] (evs σ xs)) v
 | .callb f xs avs => dcond (.callb f xs avs) σ ∧ noUnd (strips (frzL (bids (evs σ xs)) σ.hp) (evs σ xs)) ∧ CtrN P f (strips (frzL (bids (evs σ xs)) σ.hp) (evs σ xs)) v
 | .callt f i xs => ∃ cs rest, evs σ xs = .aggw cs :: rest ∧ bids rest = [] ∧ noUnd (strips [] rest) ∧ cs[i]? = some v ∧ CtrT P f i cs.length (strips [] rest)
 | .calls f b xs bs => bids (evs σ xs) = [] ∧ noUnd (strips [] (evs σ xs)) ∧ CtrS P f (strips [] (evs σ xs)) v (gsB b bs) ∧ ∀ p ∈ bs, getB σ.hp (K b p.1 p.2.1) = none
 | .callv x xs => bids (evs σ xs) = [] ∧ noUnd (strips [] (evs σ xs)) ∧ ∃ f first caps, ev σ x = .clo f first caps ∧ Ctr P f (first ++ strips [] (evs σ xs) ++ caps) v
 | op => vcond op σ ∧ dcond op σ ∧ v = vval op σ
def gst (o : VOper) (σ : AS) : Option Bool :=
 match o.g with
 | none => some true
 | some (t, want) =>
  match get σ.fr t with
  | .bool b => some (b == want)
  | .nul => some false
  | _ => none
def StepV (o : VOper) (σ : AS) (v : AV) (e : Ef) : Prop :=
 (gst o σ = some false ∧ v = .nul ∧ e = .none) ∨ (gst o σ = some true ∧ Yld P o.op σ v ∧ e = eff o.op σ)
def Runs : List VOper → AS → AS → Prop
 | [], σ, σf => σ = σf
 | o :: r, σ, σf => ∃ v e, StepV P o σ v e ∧ Runs r (put o.d v (apE e σ)) σf
end
structure EqS (σ τ : AS) : Prop where
 fr : ∀ t, get τ.fr t = get σ.fr t
 hp : ∀ b, getB τ.hp b = getB σ.hp b
 tk : ∀ k, getT τ.tk k = getT σ.tk k
 pd : τ.pd = σ.pd
theorem EqS.refl (σ : AS) : EqS σ σ := ⟨fun _ => rfl, fun _ => rfl, fun _ => rfl, rfl⟩
theorem EqS.symm {σ τ : AS} (h : EqS σ τ) : EqS τ σ := ⟨fun t => (h.fr t).symm, fun b => (h.hp b).symm, fun k => (h.tk k).symm, h.pd.symm⟩
theorem EqS.trans {σ τ υ : AS} (h : EqS σ τ) (k : EqS τ υ) : EqS σ υ := ⟨fun t => (k.fr t).trans (h.fr t), fun b => (k.hp b).trans (h.hp b), fun x => (k.tk x).trans (h.tk x), k.pd.trans h.pd⟩
theorem Rel.eqs {N : Cfg} {C0 : Nat → Nat → Prop} {w0 : World} {σ τ : AS} {a : Act} {w : World} {C : Nat → Nat → Prop} {m : Nat → Option Nat} {tk : Nat → Option TK} {own : Nat → Option (Nat ⊕ Nat)}
  (h : Rel N C0 w0 σ a w C m tk own) (e : EqS σ τ) : Rel N C0 w0 τ a w C m tk own :=
 {gf := h.gf, below := h.below, c0 := h.c0, cnew := h.cnew, cval := h.cval, nc := by rw [e.pd]; exact h.nc, ext := h.ext, size := h.size, slots := fun t => by rw [e.fr]; exact h.slots t,
  boxes := fun b bx hb => h.boxes b bx (by rw [← e.hp]; exact hb), mdom := fun b blk hb => by rw [e.hp]; exact h.mdom b blk hb,
  toks := fun k n hk => h.toks k n (by rw [← e.tk]; exact hk), tdom := fun k T hk => by rw [e.tk]; exact h.tdom k T hk, owned := h.owned, owns := h.owns }
def rdO (o : VOper) : List Nat :=
 o.op.rd ++ (match o.g with
 | some (t, _) => [t]
 | none => [])
structure AlikeO (o : VOper) (σ τ : AS) : Prop where
 fr : ∀ t ∈ rdO o, get τ.fr t = get σ.fr t
 run : gst o σ = some true → Alike o.op σ τ
theorem gst_congr {o : VOper} {σ τ : AS} (h : ∀ t ∈ rdO o, get τ.fr t = get σ.fr t) : gst o τ = gst o σ := by
 unfold gst
 cases hg : o.g with
 | none => rfl
 | some p =>
  obtain ⟨t, want⟩ := p
  simp only
  rw [h t (by simp [rdO, hg])]
section
variable {P : Program}
theorem yld_alike {op : VOp} {σ τ : AS} {v : AV} (h : Alike op σ τ) (hy : Yld P op σ v) : Yld P op τ v ∧ eff op τ = eff op σ := by
 cases op with
 | call f xs =>
  simp only [Yld] at hy ⊢
  have e : evs τ xs = evs σ xs := evs_congr h.fr
  rw [e]
  exact ⟨hy, rfl⟩
 | callb f xs avs =>
  simp only [Yld] at hy ⊢
  obtain ⟨h1, h2, h3⟩ := hy
  have e : evs τ xs = evs σ xs := evs_congr h.fr
  have hat := h.hp
  simp only [VOp.at] at hat
  simp only [dcond, e] at h1 ⊢
  revert h1
  generalize hl : bids (evs σ xs) = L at *
  match L with
  | [] => intro h1; exact h1.elim
  | _ :: _ :: _ => intro h1; exact h1.elim
  | [b] =>
   intro h1
   have hb := hat b rfl
   simp only at h1 ⊢
   rw [hb]
   cases hg : getB σ.hp b with
   | none => rw [hg] at h1; exact h1.elim
   | some bx =>
    rw [hg] at h1
    have := strips_one (hp := σ.hp) (hp' := τ.hp) hl hg (by rw [hb, hg]) h1.1
    rw [hl] at this
    rw [this]
    exact ⟨⟨h1, h2, h3⟩, rfl⟩
 | callt f i xs =>
  simp only [Yld] at hy ⊢
  have e : evs τ xs = evs σ xs := evs_congr h.fr
  rw [e]
  exact ⟨hy, rfl⟩
 | calls f b xs bs =>
  simp only [Yld] at hy ⊢
  have e : evs τ xs = evs σ xs := evs_congr h.fr
  rw [e]
  exact ⟨⟨hy.1, hy.2.1, hy.2.2.1, fun p hp => by rw [h.gf b rfl]; exact hy.2.2.2 p hp⟩, rfl⟩
 | callv x xs =>
  simp only [Yld] at hy ⊢
  have e : evs τ xs = evs σ xs := evs_congr fun t ht => h.fr t (by simp only [VOp.rd, List.mem_append]; exact .inr ht)
  have e2 : ev τ x = ev σ x := ev_congr fun t ht => h.fr t (by simp only [VOp.rd, List.mem_append]; exact .inl ht)
  rw [e, e2]
  exact ⟨hy, rfl⟩
 | _ =>
  simp only [Yld] at hy ⊢
  obtain ⟨h1, h2, h3⟩ := hy
  obtain ⟨k1, k2, k3, k4⟩ := alike_op h h2 h1
  exact ⟨⟨k1, k2, by rw [k3]; exact h3⟩, k4⟩
theorem stepV_alike {o : VOper} {σ τ : AS} {v : AV} {e : Ef} (h : AlikeO o σ τ) (hs : StepV P o σ v e) : StepV P o τ v e := by
 rcases hs with ⟨h1, h2, h3⟩ | ⟨h1, h2, h3⟩
 ·exact .inl ⟨by rw [gst_congr h.fr]; exact h1, h2, h3⟩
 ·obtain ⟨k1, k2⟩ := yld_alike (h.run h1) h2
  exact .inr ⟨by rw [gst_congr h.fr]; exact h1, k1, by rw [k2]; exact h3⟩
theorem EqS.alike {o : VOper} {σ τ : AS} (h : EqS σ τ) : AlikeO o σ τ :=
 ⟨fun t _ => h.fr t, fun _ => ⟨fun t _ => h.fr t, fun b _ => h.hp b, fun b _ hb => by rw [h.hp]; exact hb, fun _ k => h.tk k, fun b _ i v => h.hp _⟩⟩
theorem EqS.step {σ τ : AS} (h : EqS σ τ) (d : Option Nat) (v : AV) (e : Ef) : EqS (put d v (apE e σ)) (put d v (apE e τ)) := by
 have h1 : EqS (apE e σ) (apE e τ) := by
  cases e with
  | none => exact h
  | box b x => exact ⟨h.fr, fun c => by simp only [apE, getB]; rw [h.hp], h.tk, h.pd⟩
  | sto b x => exact ⟨h.fr, fun c => by simp only [apE, getB_setB]; rw [h.hp], h.tk, h.pd⟩
  | tokN k n => exact ⟨h.fr, h.hp, fun c => by simp only [apE, getT]; rw [h.tk], h.pd⟩
  | tokS k n => exact ⟨h.fr, h.hp, fun c => by simp only [apE, getT_setT]; rw [h.tk], h.pd⟩
  | g b i v x dead => exact ⟨h.fr, fun c => by cases dead <;> simp only [apE, deadB, getB, getB_setB] <;> rw [h.hp], h.tk, h.pd⟩
  | gs b l => exact ⟨h.fr, fun c => by simp only [apE, getB_app]; rw [h.hp], h.tk, h.pd⟩
 refine ⟨fun t => ?_, ?_, ?_, ?_⟩
 ·rw [get_put, get_put, h1.fr]
 ·cases d <;> exact h1.hp
 ·cases d <;> exact h1.tk
 ·cases d <;> exact h1.pd
theorem Runs.eqs {l : List VOper} {σ τ σf : AS} (h : Runs P l σ σf) (e : EqS σ τ) : ∃ τf, Runs P l τ τf ∧ EqS σf τf := by
 induction l generalizing σ τ with
 | nil => simp only [Runs] at h; subst h; exact ⟨τ, rfl, e⟩
 | cons o r ih =>
  obtain ⟨v, ef, h1, h2⟩ := h
  obtain ⟨τf, h3, h4⟩ := ih h2 (e.step o.d v ef)
  exact ⟨τf, ⟨v, ef, stepV_alike e.alike h1, h3⟩, h4⟩
end
def disj (xs ys : List Nat) : Bool := xs.all fun x => !ys.contains x
def isSto : VOp → Bool
 | .store _ _ _ _ => true
 | _ => false
def hpOK (a b : VOp) : Bool :=
 (match a.ldA with
  | some avs =>
   (match b with
    | .store _ _ _ (some c) => avs.contains c
    | .store _ _ _ none => false
    | _ => true) && (match b.new with
    | some c => avs.contains c
    | none => true) && (!b.fam.isSome || avs.contains GB)
  | none => true) &&
 (match a with
  | .store _ _ _ ob =>
   (match b.new with
    | some c => (match ob with | some d => d != c | none => false)
    | none => true) && (!b.fam.isSome || (match ob with | some d => decide (d < GB) | none => false))
  | _ => true) &&
 (match a.new with
  | some c => !b.fam.isSome || decide (c < GB)
  | none => true) &&
 (match a.fam, b.fam with
  | some p, some q => p != q
  | _, _ => true)
def indep (x y : VOper) : Bool :=
 disj x.d.toList (rdO y) && disj y.d.toList (rdO x) && disj x.d.toList y.d.toList && !(x.op.isTok && y.op.isTok) && !(isSto x.op && isSto y.op) && hpOK x.op y.op && hpOK y.op x.op
theorem disj_spec {xs ys : List Nat} (h : disj xs ys = true) : ∀ t ∈ xs, t ∉ ys := by
 intro t ht hy
 unfold disj at h
 have := List.all_eq_true.1 h t ht
 simp [List.contains_iff_mem, hy] at this
section
variable {P : Program}
theorem eff_cases' {op : VOp} {σ : AS} {v : AV} (hy : Yld P op σ v) :
  eff op σ = .none ∨ (∃ b x, eff op σ = .box b x ∧ op.new = some b ∧ getB σ.hp b = none) ∨
  (∃ b x n p y ob, eff op σ = .sto b x ∧ op = .store n p y ob ∧ (getB σ.hp b).isSome = true ∧ (ob = none ∨ ob = some b) ∧ op.at σ = some b) ∨
  (∃ k n, (eff op σ = .tokN k n ∨ eff op σ = .tokS k n) ∧ op.isTok = true) ∨
  (∃ b i v x dead, eff op σ = .g b i v x dead ∧ op.fam = some b ∧ getB σ.hp (K b i v) = none ∧ ∀ u, dead = some u → (getB σ.hp (K b i u)).isSome = true) ∨
  (∃ b l, eff op σ = .gs b l ∧ op.fam = some b ∧ ∀ p ∈ l, getB σ.hp (K b p.1 p.2.1) = none) := by
 cases op
 case calls f b xs bs => exact .inr (.inr (.inr (.inr (.inr ⟨_, _, rfl, rfl, hy.2.2.2⟩))))
 case nilsG b ix sz ag => exact .inr (.inr (.inr (.inr (.inl ⟨_, _, _, _, _, rfl, rfl, hy.1, fun u e => by cases e⟩))))
 case appG b0 ix sz by_ ag x y =>
  obtain ⟨hc, _, _⟩ := hy
  simp only [vcond] at hc
  simp only [eff]
  generalize yInfo (ev σ y) = u at *
  cases u with
  | none => exact hc.elim
  | some q =>
   simp only at hc ⊢
   obtain ⟨hc1, hc2⟩ := hc
   generalize ev σ x = v at *
   split at hc2 <;> first | exact hc2.elim | skip
   ·rename_i b i v sz' n ag'
    obtain ⟨rfl, h2, h3, h4, h5, h6⟩ := hc2
    refine .inr (.inr (.inr (.inr (.inl ⟨_, _, _, _, _, rfl, rfl, h5, fun u e => ?_⟩))))
    injection e with e
    subst e
    split at h6 <;> first | exact h6.elim | skip
    rename_i hg
    rw [hg]; rfl
   ·exact .inr (.inr (.inr (.inr (.inl ⟨_, _, _, _, _, rfl, rfl, hc2.2.2, fun u e => by cases e⟩))))
 case nils k sz => exact .inr (.inr (.inr (.inl ⟨_, _, .inl rfl, rfl⟩)))
 case alloc b z => exact .inr (.inl ⟨_, _, rfl, rfl, hy.1⟩)
 case box b n x => exact .inr (.inl ⟨_, _, rfl, rfl, hy.1.1⟩)
 case store n p x ob =>
  obtain ⟨hc, _, _⟩ := hy
  simp only [vcond] at hc
  cases hev : ev σ p <;> simp only [hev] at hc <;> first | exact hc.elim | skip
  rename_i b off
  cases hg : getB σ.hp b with
  | none => simp [hg] at hc
  | some bx =>
   simp only [hg] at hc
   exact .inr (.inr (.inl ⟨b, ⟨setAt bx.cells off (ev σ x).cells, false⟩, n, p, x, ob, by simp only [eff, hev, hg], rfl, by rw [hg]; rfl, hc.1, by simp only [VOp.at, hev]⟩))
 case makes b sz by_ ag z x =>
  obtain ⟨hc, _, _⟩ := hy
  simp only [vcond] at hc
  cases hev : ev σ x <;> simp only [hev] at hc <;> first | exact hc.elim | skip
  exact .inr (.inl ⟨_, _, rfl, rfl, hc.1⟩)
 case make0 k sz by_ x => exact .inr (.inr (.inr (.inl ⟨_, _, .inl rfl, rfl⟩)))
 case app k0 sz by_ x y =>
  obtain ⟨hc, _, _⟩ := hy
  simp only [vcond] at hc
  cases hev : ev σ x <;> simp only [hev] at hc <;> first | exact hc.elim | skip
  cases hev2 : strip σ.hp (ev σ y) <;> simp only [hev2] at hc <;> first | exact hc.elim | skip
  rename_i md _ _ _
  cases md
  ·exact hc.2.2.2.elim
  ·exact .inr (.inr (.inr (.inl ⟨_, _, .inl (by simp only [eff, hev, hev2]; rfl), rfl⟩)))
  ·exact .inr (.inr (.inr (.inl ⟨_, _, .inr (by simp only [eff, hev, hev2]; rfl), rfl⟩)))
 all_goals exact .inl rfl
theorem eff_cases {o : VOper} {σ : AS} {v : AV} {e : Ef} (h : StepV P o σ v e) :
  e = .none ∨ (∃ b x, e = .box b x ∧ o.op.new = some b ∧ getB σ.hp b = none) ∨
  (∃ b x n p y ob, e = .sto b x ∧ o.op = .store n p y ob ∧ (getB σ.hp b).isSome = true ∧ (ob = none ∨ ob = some b) ∧ o.op.at σ = some b) ∨
  (∃ k n, (e = .tokN k n ∨ e = .tokS k n) ∧ o.op.isTok = true) ∨
  (∃ b i v x dead, e = .g b i v x dead ∧ o.op.fam = some b ∧ getB σ.hp (K b i v) = none ∧ ∀ u, dead = some u → (getB σ.hp (K b i u)).isSome = true) ∨
  (∃ b l, e = .gs b l ∧ o.op.fam = some b ∧ ∀ p ∈ l, getB σ.hp (K b p.1 p.2.1) = none) := by
 rcases h with ⟨_, _, h⟩ | ⟨_, hy, h⟩
 ·exact .inl h
 ·subst h
  exact eff_cases' hy
theorem at_some {op : VOp} {σ : AS} {v : AV} (hy : Yld P op σ v) {b : Nat} (h : op.at σ = some b) :
  (getB σ.hp b).isSome = true ∧ (∀ avs, op.ldA = some avs → avOK b avs) ∧ (∀ n p x ob, op = .store n p x ob → ob = none ∨ ob = some b) := by
 cases op <;> simp only [VOp.at] at h <;> first | (cases h; done) | skip
 case loadW n x avs =>
  simp only [Yld, vcond] at hy
  generalize ev σ x = u at *
  cases u <;> simp only at h <;> first | (cases h; done) | skip
  rename_i c off
  injection h with h
  subst h
  cases hg : getB σ.hp c with
  | none => simp [hg] at hy
  | some bx =>
   simp only [hg] at hy
   refine ⟨by simp, fun avs' e => ?_, (fun n' p' x' ob' e => by cases e)⟩
   injection e with e
   subst e
   exact hy.1.2
 case callb f xs avs =>
  simp only [Yld, dcond] at hy
  obtain ⟨h1, _⟩ := hy
  generalize bids (evs σ xs) = L at *
  match L with
  | [] => exact h1.elim
  | _ :: _ :: _ => exact h1.elim
  | [c] =>
   simp only [List.head?_cons, Option.some.injEq] at h
   subst h
   simp only at h1
   cases hg : getB σ.hp c with
   | none => rw [hg] at h1; exact h1.elim
   | some bx =>
    rw [hg] at h1
    refine ⟨by simp, fun avs' e => ?_, (fun n' p' x' ob' e => by cases e)⟩
    injection e with e
    subst e
    exact h1.2
 case load n ag x avs =>
  simp only [Yld, vcond] at hy
  generalize ev σ x = u at *
  cases u <;> simp only at h <;> first | (cases h; done) | skip
  rename_i c off
  injection h with h
  subst h
  cases hg : getB σ.hp c with
  | none => simp [hg] at hy
  | some bx =>
   simp only [hg] at hy
   refine ⟨by simp, fun avs' e => ?_, (fun n' p' x' ob' e => by cases e)⟩
   injection e with e
   subst e
   exact hy.1.2
 case store n p x ob =>
  simp only [Yld, vcond] at hy
  generalize ev σ p = u at *
  cases u <;> simp only at h <;> first | (cases h; done) | skip
  rename_i c off
  injection h with h
  subst h
  cases hg : getB σ.hp c with
  | none => simp [hg] at hy
  | some bx =>
   simp only [hg] at hy
   refine ⟨by simp, (fun avs' e => by cases e), fun n' p' x' ob' e => ?_⟩
   injection e with _ _ _ e4
   subst e4
   exact hy.1.1
theorem at_kind {op : VOp} {σ : AS} {b : Nat} (h : op.at σ = some b) : (∃ avs, op.ldA = some avs) ∨ ∃ n p x ob, op = .store n p x ob := by
 cases op <;> simp only [VOp.at] at h <;> first | (cases h; done) | exact .inl ⟨_, rfl⟩ | exact .inr ⟨_, _, _, _, rfl⟩
theorem getB_apE (e : Ef) (σ : AS) (d : Option Nat) (v : AV) (b : Nat) : getB (put d v (apE e σ)).hp b = match e with
  | .box c x => if c = b then some x else getB σ.hp b
  | .sto c x => if c = b then some x else getB σ.hp b
  | .g b1 i v x dead => if K b1 i v = b then some x else match dead with
   | some u => if K b1 i u = b then some ⟨[], true⟩ else getB σ.hp b
   | none => getB σ.hp b
  | .gs b1 l => (match getB (gsB b1 l) b with | some x => some x | none => getB σ.hp b)
  | _ => getB σ.hp b := by
 cases e with
 | g b1 i v x dead => cases d <;> cases dead <;> simp only [put, apE, deadB, getB, getB_setB]
 | gs b1 l => cases d <;> (simp only [put, apE, getB_app]; rfl)
 | _ => cases d <;> simp [put, apE, getB, getB_setB]
theorem getT_apE (e : Ef) (σ : AS) (d : Option Nat) (v : AV) (k : Nat) : getT (put d v (apE e σ)).tk k = match e with
  | .tokN c x => if c = k then some x else getT σ.tk k
  | .tokS c x => if c = k then some x else getT σ.tk k
  | _ => getT σ.tk k := by
 cases d <;> cases e <;> simp [put, apE, getT, getT_setT]
theorem get_apE (e : Ef) (σ : AS) (d : Option Nat) (v : AV) (t : Nat) : get (put d v (apE e σ)).fr t = if d = some t then v else get σ.fr t := by
 rw [get_put]
 cases e <;> rfl
theorem pd_apE (e : Ef) (σ : AS) (d : Option Nat) (v : AV) : (put d v (apE e σ)).pd = σ.pd := by
 cases d <;> cases e <;> rfl
theorem dom_apE (e : Ef) (σ : AS) (d : Option Nat) (v : AV) (b : Nat) (h : getB (put d v (apE e σ)).hp b = none) : getB σ.hp b = none := by
 rw [getB_apE] at h
 cases e
 case gs b1 l =>
  simp only at h
  split at h
  ·simp at h
  ·exact h
 all_goals simp only at h <;> first | exact h | (split at h <;> first | (simp at h; done) | exact h | skip)
 split at h
 ·split at h
  ·simp at h
  ·exact h
 ·exact h
def Ef.hit (e : Ef) (b : Nat) : Prop :=
 match e with
 | .box c _ => c = b
 | .sto c _ => c = b
 | .g b1 i v _ dead => K b1 i v = b ∨ ∃ u, dead = some u ∧ K b1 i u = b
 | .gs b1 l => (getB (gsB b1 l) b).isSome = true
 | _ => False
theorem getB_nohit {e : Ef} {b : Nat} (h : ¬ e.hit b) (σ : AS) (d : Option Nat) (v : AV) : getB (put d v (apE e σ)).hp b = getB σ.hp b := by
 rw [getB_apE]
 cases e <;> simp only [Ef.hit] at h ⊢
 ·rw [if_neg h]
 ·rw [if_neg h]
 ·rename_i b1 i v1 x dead
  rw [if_neg (fun e => h (.inl e))]
  cases dead with
  | none => rfl
  | some u => simp only; rw [if_neg (fun e => h (.inr ⟨u, rfl, e⟩))]
 ·rename_i b1 l
  cases hg : getB (gsB b1 l) b with
  | none => rfl
  | some x => rw [hg] at h; simp at h
theorem getB_apE_congr {e : Ef} {σ τ : AS} {b : Nat} (h : getB σ.hp b = getB τ.hp b) (d : Option Nat) (v : AV) : getB (put d v (apE e σ)).hp b = getB (put d v (apE e τ)).hp b := by
 rw [getB_apE, getB_apE]
 cases e <;> simp only [h]
def EfK (q : VOp) (e : Ef) : Prop :=
 match e with
 | .none => True
 | .box b _ => q.new = some b
 | .sto b _ => ∃ n p y ob, q = .store n p y ob ∧ (ob = none ∨ ob = some b)
 | .tokN _ _ => q.isTok = true
 | .tokS _ _ => q.isTok = true
 | .g b _ _ _ _ => q.fam = some b
 | .gs b _ => q.fam = some b
theorem efK {o : VOper} {σ : AS} {v : AV} {e : Ef} (h : StepV P o σ v e) : EfK o.op e := by
 rcases eff_cases h with rfl | ⟨b, x, rfl, h1, _⟩ | ⟨b, x, n, p, y, ob, rfl, h1, _, h2, _⟩ | ⟨k, n, rfl | rfl, h1⟩ | ⟨b, i, v, x, dead, rfl, h1, _⟩ | ⟨b, l, rfl, h1, _⟩
 ·trivial
 ·exact h1
 ·exact ⟨n, p, y, ob, h1, h2⟩
 ·exact h1
 ·exact h1
 ·exact h1
 ·exact h1
theorem nohit_at {p q : VOp} (hok : hpOK p q = true) (hs : ¬ (isSto p = true ∧ isSto q = true)) {b : Nat} (hk : (∃ avs, p.ldA = some avs) ∨ ∃ n x y ob, p = .store n x y ob)
  (h2 : ∀ avs, p.ldA = some avs → avOK b avs) (h3 : ∀ n x y ob, p = .store n x y ob → ob = none ∨ ob = some b) {e : Ef} (he : EfK q e) : ¬ e.hit b := by
 simp only [hpOK, Bool.and_eq_true] at hok
 obtain ⟨⟨⟨k1, k2⟩, k3⟩, k4⟩ := hok
 intro hh
 cases e <;> simp only [Ef.hit, EfK] at hh he
 ·subst hh
  rcases hk with ⟨avs, ha⟩ | ⟨n, x, y, ob, rfl⟩
  ·simp only [ha, he, Bool.and_eq_true, List.contains_iff_mem] at k1
   exact (h2 avs ha).1 k1.1.2
  ·simp only [he, Bool.and_eq_true] at k2
   rcases h3 _ _ _ _ rfl with rfl | rfl
   ·simp at k2
   ·simp at k2
 ·subst hh
  obtain ⟨n', p', y', ob', rfl, ho⟩ := he
  rcases hk with ⟨avs, ha⟩ | ⟨n, x, y, ob, rfl⟩
  ·simp only [ha, Bool.and_eq_true] at k1
   rcases ho with rfl | rfl
   ·simp at k1
   ·simp only [List.contains_iff_mem] at k1
    exact (h2 avs ha).1 k1.1.1
  ·exact hs ⟨rfl, rfl⟩
 ·rename_i b1 i v x dead
  have hge : GB ≤ b := by
   rcases hh with hh | ⟨u, _, hh⟩ <;> (rw [← hh]; exact K_ge _ _ _)
  rcases hk with ⟨avs, ha⟩ | ⟨n, x, y, ob, rfl⟩
  ·simp only [ha, he, Bool.and_eq_true, Option.isSome_some, Bool.not_true, Bool.false_or, List.contains_iff_mem] at k1
   rcases (h2 avs ha).2 with h9 | h9
   ·exact h9 k1.2
   ·omega
  ·simp only [he, Bool.and_eq_true, Option.isSome_some, Bool.not_true, Bool.false_or] at k2
   rcases h3 _ _ _ _ rfl with rfl | rfl
   ·simp at k2
   ·have := k2.2
    simp only [decide_eq_true_eq] at this
    omega
 ·rename_i b1 l
  have hge : GB ≤ b := by
   obtain ⟨p, _, hh⟩ := gsB_mem hh
   rw [hh]; exact K_ge _ _ _
  rcases hk with ⟨avs, ha⟩ | ⟨n, x, y, ob, rfl⟩
  ·simp only [ha, he, Bool.and_eq_true, Option.isSome_some, Bool.not_true, Bool.false_or, List.contains_iff_mem] at k1
   rcases (h2 avs ha).2 with h9 | h9
   ·exact h9 k1.2
   ·omega
  ·simp only [he, Bool.and_eq_true, Option.isSome_some, Bool.not_true, Bool.false_or] at k2
   rcases h3 _ _ _ _ rfl with rfl | rfl
   ·simp at k2
   ·have := k2.2
    simp only [decide_eq_true_eq] at this
    omega
theorem nohit_fam {p q : VOp} (hok : hpOK q p = true) {f : Nat} (hf : p.fam = some f) {e : Ef} (he : EfK q e) (i v : Nat) : ¬ e.hit (K f i v) := by
 simp only [hpOK, Bool.and_eq_true] at hok
 obtain ⟨⟨⟨k1, k2⟩, k3⟩, k4⟩ := hok
 intro hh
 have hge := K_ge f i v
 cases e <;> simp only [Ef.hit, EfK] at hh he
 ·subst hh
  simp only [he, hf, Option.isSome_some, Bool.not_true, Bool.false_or, decide_eq_true_eq] at k3
  omega
 ·subst hh
  obtain ⟨n', p', y', ob', rfl, ho⟩ := he
  simp only [hf, Option.isSome_some, Bool.not_true, Bool.false_or, Bool.and_eq_true] at k2
  rcases ho with rfl | rfl
  ·simp at k2
  ·have := k2.2
   simp only [decide_eq_true_eq] at this
   omega
 ·simp only [he, hf] at k4
  rcases hh with hh | ⟨u, _, hh⟩
  ·rw [K_inj] at hh; simp [hh.1] at k4
  ·rw [K_inj] at hh; simp [hh.1] at k4
 ·simp only [he, hf] at k4
  obtain ⟨p, _, hh⟩ := gsB_mem hh
  rw [K_inj] at hh; simp [hh.1] at k4
end
end Go.V

set_option linter.unusedSimpArgs false
set_option linter.unusedVariables false
set_option linter.unnecessarySimpa false
namespace Go.V
open Go Go.RowKit
section
variable {P : Program}
theorem commute {x y : VOper} {σ : AS} {v1 v2 : AV} {e1 e2 : Ef} (hi : indep x y = true) (h1 : StepV P x σ v1 e1) (h2 : StepV P y (put x.d v1 (apE e1 σ)) v2 e2) :
  StepV P y σ v2 e2 ∧ StepV P x (put y.d v2 (apE e2 σ)) v1 e1 ∧ EqS (put x.d v1 (apE e1 (put y.d v2 (apE e2 σ)))) (put y.d v2 (apE e2 (put x.d v1 (apE e1 σ)))) := by
 simp only [indep, Bool.and_eq_true] at hi
 obtain ⟨⟨⟨⟨⟨⟨i1, i2⟩, i3⟩, i4⟩, i5⟩, i6⟩, i7⟩ := hi
 have d1 := disj_spec i1
 have d2 := disj_spec i2
 have d3 := disj_spec i3
 have hfr1 : ∀ t ∈ rdO y, get σ.fr t = get (put x.d v1 (apE e1 σ)).fr t := by
  intro t ht
  rw [get_apE, if_neg]
  intro e
  exact d1 t (by simp [e]) ht
 have hfr2 : ∀ t ∈ rdO x, get (put y.d v2 (apE e2 σ)).fr t = get σ.fr t := by
  intro t ht
  rw [get_apE, if_neg]
  intro e
  exact d2 t (by simp [e]) ht
 have c1 := efK h1
 have c2 := efK h2
 have hss : ¬ (isSto x.op = true ∧ isSto y.op = true) := by
  rintro ⟨e1, e2⟩
  rw [e1, e2] at i5
  simp at i5
 have hss' : ¬ (isSto y.op = true ∧ isSto x.op = true) := fun ⟨e1, e2⟩ => hss ⟨e2, e1⟩
 have hy1 : gst y (put x.d v1 (apE e1 σ)) = some true → Yld P y.op (put x.d v1 (apE e1 σ)) v2 := by
  intro hg
  rcases h2 with ⟨k, _⟩ | ⟨_, k, _⟩
  ·rw [k] at hg; simp at hg
  ·exact k
 have hx1 : gst x σ = some true → Yld P x.op σ v1 := by
  intro hg
  rcases h1 with ⟨k, _⟩ | ⟨_, k, _⟩
  ·rw [k] at hg; simp at hg
  ·exact k
 have a1 : AlikeO y (put x.d v1 (apE e1 σ)) σ := by
  refine ⟨hfr1, fun hg => ⟨fun t ht => hfr1 t (List.mem_append.2 (.inl ht)), ?_, ?_, ?_, ?_⟩⟩
  ·intro b hb
   obtain ⟨_, q2, q3⟩ := at_some (hy1 hg) hb
   rw [getB_nohit (nohit_at i7 hss' (at_kind hb) q2 q3 c1)]
  ·intro b hb hnone
   exact dom_apE _ _ _ _ _ hnone
  ·intro ht k
   rw [getT_apE]
   cases e1 <;> try rfl
   all_goals
    simp only [EfK] at c1
    rw [ht, c1] at i4
    simp at i4
  ·intro f hf i v
   rw [getB_nohit (nohit_fam i6 hf c1 i v)]
 have s1 := stepV_alike a1 h2
 have c2f := eff_cases h2
 have a2 : AlikeO x σ (put y.d v2 (apE e2 σ)) := by
  refine ⟨hfr2, fun hg => ⟨fun t ht => hfr2 t (List.mem_append.2 (.inl ht)), ?_, ?_, ?_, ?_⟩⟩
  ·intro b hb
   obtain ⟨q1, q2, q3⟩ := at_some (hx1 hg) hb
   rw [getB_nohit (nohit_at i6 hss (at_kind hb) q2 q3 c2)]
  ·intro b hb hnone
   have hnh : ¬ e2.hit b := by
    intro hh
    rcases c2f with rfl | ⟨b1, x1, rfl, hn, hf⟩ | ⟨b1, x1, n1, p1, y1, ob1, rfl, hop, _, hob, _⟩ | ⟨k, n, rfl | rfl, _⟩ | ⟨b1, ii, vv, xx, dead, rfl, hfm, _⟩ | ⟨b1, ll, rfl, hfm, _⟩ <;> simp only [Ef.hit] at hh
    ·subst hh
     rw [getB_apE] at hf
     rcases h1 with ⟨k, _⟩ | ⟨_, _, k⟩
     ·rw [k] at hg; simp at hg
     ·subst k
      cases hop : x.op <;> rw [hop] at hb hf <;> simp only [VOp.new] at hb <;> first | (cases hb; done) | skip
      all_goals (injection hb with hb; subst hb; simp [eff] at hf)
    ·subst hh
     rw [hop] at i7
     simp only [hpOK, hb, Bool.and_eq_true] at i7
     rcases hob with rfl | rfl
     ·simp at i7
     ·simp at i7
    ·simp only [hpOK, hb, hfm, Bool.and_eq_true, Option.isSome_some, Bool.not_true, Bool.false_or, decide_eq_true_eq] at i6
     have hge : GB ≤ b := by
      rcases hh with hh | ⟨u, _, hh⟩ <;> (rw [← hh]; exact K_ge _ _ _)
     have := i6.1.2
     omega
    ·simp only [hpOK, hb, hfm, Bool.and_eq_true, Option.isSome_some, Bool.not_true, Bool.false_or, decide_eq_true_eq] at i6
     have hge : GB ≤ b := by
      obtain ⟨p, _, hh⟩ := gsB_mem hh
      rw [hh]; exact K_ge _ _ _
     have := i6.1.2
     omega
   rw [getB_nohit hnh]
   exact hnone
  ·intro ht k
   rw [getT_apE]
   cases e2 <;> try rfl
   all_goals
    simp only [EfK] at c2
    rw [ht, c2] at i4
    simp at i4
  ·intro f hf i v
   rw [getB_nohit (nohit_fam i7 hf c2 i v)]
 have hdis : ∀ b, e1.hit b → ¬ e2.hit b := by
  intro b hh1 hh2
  rcases c2f with rfl | ⟨b2, x2, rfl, hn2, hf2⟩ | ⟨b2, x2, n2, p2, y2, ob2, rfl, hop2, _, hob2, _⟩ | ⟨k2, n2, rfl | rfl, _⟩ | ⟨b2, ii, vv, xx, dead, rfl, hfm2, _⟩ | ⟨b2, ll, rfl, hfm2, _⟩ <;> simp only [Ef.hit] at hh2
  ·subst hh2
   have : getB (put x.d v1 (apE e1 σ)).hp b2 ≠ none := by
    rw [getB_apE]
    cases e1 <;> simp only [Ef.hit] at hh1
    ·simp only; rw [if_pos hh1]; simp
    ·simp only; rw [if_pos hh1]; simp
    ·rcases hh1 with hh1 | ⟨u, rfl, hh1⟩
     ·simp only; rw [if_pos hh1]; simp
     ·simp only
      split
      ·simp
      ·simp
    ·rename_i b1 l
     simp only
     cases hg : getB (gsB b1 l) b2 with
     | none => rw [hg] at hh1; simp at hh1
     | some x => simp
   exact this hf2
  ·subst hh2
   cases e1 <;> simp only [Ef.hit, EfK] at hh1 c1
   ·subst hh1
    rw [hop2] at i7
    simp only [hpOK, c1, Bool.and_eq_true] at i7
    rcases hob2 with rfl | rfl
    ·simp at i7
    ·simp at i7
   ·obtain ⟨_, _, _, _, hop, _⟩ := c1
    exact hss ⟨by rw [hop]; rfl, by rw [hop2]; rfl⟩
   ·rw [hop2] at i7
    simp only [hpOK, c1, Bool.and_eq_true, Option.isSome_some, Bool.not_true, Bool.false_or] at i7
    rename_i b1 i v x dead
    have hge : GB ≤ b2 := by
     rcases hh1 with hh | ⟨u, _, hh⟩ <;> (rw [← hh]; exact K_ge _ _ _)
    rcases hob2 with rfl | rfl
    ·simp at i7
    ·have := i7.1.1.2.2
     simp only [decide_eq_true_eq] at this
     omega
   ·rw [hop2] at i7
    simp only [hpOK, c1, Bool.and_eq_true, Option.isSome_some, Bool.not_true, Bool.false_or] at i7
    rename_i b1 l
    have hge : GB ≤ b2 := by
     obtain ⟨p, _, hh⟩ := gsB_mem hh1
     rw [hh]; exact K_ge _ _ _
    rcases hob2 with rfl | rfl
    ·simp at i7
    ·have := i7.1.1.2.2
     simp only [decide_eq_true_eq] at this
     omega
  ·have hx : ∃ i v, b = K b2 i v := by
    rcases hh2 with hh | ⟨u, _, hh⟩
    ·exact ⟨_, _, hh.symm⟩
    ·exact ⟨_, _, hh.symm⟩
   obtain ⟨i, v, rfl⟩ := hx
   exact nohit_fam i6 hfm2 c1 i v hh1
  ·obtain ⟨p, _, rfl⟩ := gsB_mem hh2
   exact nohit_fam i6 hfm2 c1 _ _ hh1
 refine ⟨s1, stepV_alike a2 h1, ?_⟩
 refine ⟨fun t => ?_, fun b => ?_, fun k => ?_, ?_⟩
 ·simp only [get_apE]
  by_cases hx : x.d = some t
  ·rw [if_pos hx]
   by_cases hy : y.d = some t
   ·exact absurd (show t ∈ y.d.toList by simp [hy]) (d3 t (by simp [hx]))
   ·rw [if_neg hy, if_pos hx]
  ·rw [if_neg hx, if_neg hx]
 ·by_cases hh1 : e1.hit b
  ·have hh2 := hdis b hh1
   rw [getB_nohit hh2]
   exact getB_apE_congr (getB_nohit hh2 _ _ _).symm _ _
  ·rw [getB_nohit hh1 (put y.d v2 (apE e2 σ))]
   exact getB_apE_congr (getB_nohit hh1 _ _ _) _ _
 ·simp only [getT_apE]
  cases e1 <;> cases e2 <;> try rfl
  all_goals
   simp only [EfK] at c1 c2
   rw [c1, c2] at i4
   simp at i4
 ·simp only [pd_apE]
theorem pull {o : VOper} {r1 r2 : List VOper} {σ σf : AS} (h : Runs P (r1 ++ o :: r2) σ σf) (hi : ∀ x ∈ r1, indep x o = true) :
  ∃ v e, StepV P o σ v e ∧ ∃ τf, Runs P (r1 ++ r2) (put o.d v (apE e σ)) τf ∧ EqS τf σf := by
 induction r1 generalizing σ with
 | nil =>
  obtain ⟨v, e, h1, h2⟩ := h
  exact ⟨v, e, h1, σf, h2, EqS.refl _⟩
 | cons x r ih =>
  obtain ⟨v1, e1, h1, h2⟩ := h
  obtain ⟨v2, e2, k1, τf, k2, k3⟩ := ih h2 fun z hz => hi z (by simp [hz])
  obtain ⟨s1, s2, s3⟩ := commute (hi x (by simp)) h1 k1
  obtain ⟨τf', k4, k5⟩ := k2.eqs s3.symm
  exact ⟨v2, e2, s1, τf', ⟨v1, e1, s2, k4⟩, k5.symm.trans k3⟩
end
end Go.V

set_option linter.unusedSimpArgs false
set_option linter.unusedVariables false
set_option linter.unnecessarySimpa false
namespace Go.V
open Go Go.RowKit
def R (N : Cfg) (C0 : Nat → Nat → Prop) (w0 : World) (σ : AS) (a : Act) (w : World) : Prop := ∃ C m tk own, Rel N C0 w0 σ a w C m tk own
def Fr (ρ : Option Nat) : Fence := { Fence.wide with round := ρ }
theorem callsIn_fr {ρ : Option Nat} {n : Nat} {P : Program} {f : FuncId} {args : Array Value} {w : World} {Q : Ending → World → Prop} : CallsIn (Fr ρ) n P f args w Q ↔ Calls P f args w Q :=
 (callsIn_wide (n := n) (P := P) (f := f) (args := args) (w := w) (R := Q))
abbrev FrL := List (Nat × AV)
abbrev HpL := List (Nat × BX)
abbrev TkL := List (Nat × Nat)
def YT := List FrL → List AV → HpL → TkL → (Bool → HpL → TkL → Option Ex → Prop) → Prop
structure Env where
 P : Program
 X : List FrL := []
 T : Option (Nat × YT) := none
 rd : Bool := false
def a0 : Act := { tmps := #[], defers := [] }
def args0 : Nat → List AV → List (Nat × AV)
 | _, [] => []
 | n, x :: r => (n, x) :: args0 (n + 1) r
def YSnd (P : Program) (T : Option (Nat × YT)) (C0 : Nat → Nat → Prop) (w0 : World) (X : List (Array Value × List (Nat × AV))) (K : List (Nat × Obj)) (L : Option (Nat × (Option Ex → Obj))) : Prop :=
 (T = none → L = none) ∧ ∀ l T', T = some (l, T') → ∃ lf, L = some (l, lf) ∧
  ∀ (X' : List (Array Value × List (Nat × AV))) (K' : List (Nat × Obj)) (vals : List AV) (vs : Array Value) (hp : HpL) (tk : TkL) (post : Bool → HpL → TkL → Option Ex → Prop) (w : World),
   (∀ p ∈ X, p ∈ X') → (∀ q ∈ K, q ∈ K') → (∀ q ∈ K', q ∈ K ∨ q.2 = .deferred (some [])) → T' (X'.map (·.2)) vals hp tk post → vs.size = vals.length →
   R ⟨0, (vs, args0 0 vals) :: X', K', some (l, lf)⟩ C0 w0 ⟨[], hp, tk, none⟩ a0 w →
   YieldAt (Fr none) 0 P l vs w fun e w' => ∃ b hp' tk' pd', e = .returned (.bool b) ∧ post b hp' tk' pd' ∧ R ⟨0, X', K', some (l, lf)⟩ C0 w0 ⟨[], hp', tk', pd'⟩ a0 w'
theorem YSnd.mono {P : Program} {T : Option (Nat × YT)} {C0 : Nat → Nat → Prop} {w0 : World} {X X1 : List (Array Value × List (Nat × AV))} {K K1 : List (Nat × Obj)} {L : Option (Nat × (Option Ex → Obj))}
  (h : YSnd P T C0 w0 X K L) (hX : ∀ p ∈ X, p ∈ X1) (hK : ∀ q ∈ K, q ∈ K1) (hK2 : ∀ q ∈ K1, q ∈ K ∨ q.2 = .deferred (some [])) : YSnd P T C0 w0 X1 K1 L :=
 ⟨h.1, fun l T' e => by
  obtain ⟨lf, e2, hh⟩ := h.2 l T' e
  exact ⟨lf, e2, fun X' K' vals vs hp tk post w h1 h2 h3 => hh X' K' vals vs hp tk post w (fun p hp => h1 p (hX p hp)) (fun q hq => h2 q (hK q hq)) (fun q hq => by
   rcases h3 q hq with h | h
   ·exact hK2 q h
   ·exact .inr h)⟩⟩
def CSem (E : Env) (f : FuncId) (args : List AV) (hp : HpL) (tk : TkL) (pd : Option Ex) (Q : AV → HpL → TkL → Option Ex → Prop) : Prop :=
 callable E.P f = true ∧ ∀ (C0 : Nat → Nat → Prop) (w0 : World) (X : List (Array Value × List (Nat × AV))) (K : List (Nat × Obj)) (L : Option (Nat × (Option Ex → Obj))) (w : World) (vs : Array Value),
  X.map (·.2) = E.X → YSnd E.P E.T C0 w0 X K L → vs.size = args.length → R ⟨0, (vs, args0 0 args) :: X, K, L⟩ C0 w0 ⟨[], hp, tk, pd⟩ a0 w →
  Calls E.P f vs w fun e w' => ∃ v r hp' tk' pd', e = .returned v ∧ Q r hp' tk' pd' ∧ R ⟨0, (#[v], [(0, r)]) :: X, K, L⟩ C0 w0 ⟨[], hp', tk', pd'⟩ a0 w'
theorem CSem.mono {E : Env} {f : FuncId} {args : List AV} {hp : HpL} {tk : TkL} {pd : Option Ex} {Q Q' : AV → HpL → TkL → Option Ex → Prop} (h : CSem E f args hp tk pd Q)
  (hq : ∀ r hp tk pd, Q r hp tk pd → Q' r hp tk pd) : CSem E f args hp tk pd Q' :=
 ⟨h.1, fun C0 w0 X K L w vs h1 h2 h3 h4 => (h.2 C0 w0 X K L w vs h1 h2 h3 h4).mono fun e w' q => by
  obtain ⟨v, r, hp', tk', pd', e1, e2, e3⟩ := q
  exact ⟨v, r, hp', tk', pd', e1, hq _ _ _ _ e2, e3⟩⟩
def BodyQ (post : Bool → HpL → TkL → Option Ex → Prop) : Ex → AS → Prop
 | .norm, τ => post true τ.hp τ.tk none
 | e, τ => post false τ.hp τ.tk (some e)
def putL : List Nat → List AV → FrL → FrL
 | p :: ps, v :: vs, fr => putL ps vs ((p, v) :: fr)
 | _, _, fr => fr
section
variable (E : Env)
def WCall (f : FuncId) (args : List AV) (d : Option Nat) (next : AS → Prop) (σ : AS) : Prop :=
 ∃ r, Ctr E.P f args r ∧ next (put d r σ)
def WCallb (f : FuncId) (args : List AV) (d : Option Nat) (next : AS → Prop) (σ : AS) : Prop :=
 ∃ r, CtrN E.P f args r ∧ next (put d r σ)
def WCallv (x : AV) (args : List AV) (d : Option Nat) (next : AS → Prop) (σ : AS) : Prop :=
 match x with
 | .clo f first caps => WCall E f (first ++ args ++ caps) d next σ
 | _ => False
def W1 (d : Option Nat) (op : VOp) (next : AS → Prop) (σ : AS) : Prop :=
 match op with
 | .call f xs => noUnd (strips (frzL (bids (evs σ xs)) σ.hp) (evs σ xs)) ∧ WCall E f (strips (frzL (bids (evs σ xs)) σ.hp) (evs σ xs)) d next (frzS (bids (evs σ xs)) σ)
 | .callv x xs => noUnd (strips (frzL (bids (evs σ xs)) σ.hp) (evs σ xs)) ∧ WCallv E (ev σ x) (strips (frzL (bids (evs σ xs)) σ.hp) (evs σ xs)) d next (frzS (bids (evs σ xs)) σ)
 | .callb f xs _ => noUnd (strips (frzL (bids (evs σ xs)) σ.hp) (evs σ xs)) ∧ WCallb E f (strips (frzL (bids (evs σ xs)) σ.hp) (evs σ xs)) d next σ
 | .callL f xs bs => noUnd (strips (frzL bs σ.hp) (evs σ xs)) ∧ WCallb E f (strips (frzL bs σ.hp) (evs σ xs)) d next σ
 | .callt f i xs => ∃ cs rest r, evs σ xs = .aggw cs :: rest ∧ bids rest = [] ∧ noUnd (strips [] rest) ∧ cs[i]? = some r ∧ CtrT E.P f i cs.length (strips [] rest) ∧ next (put d r σ)
 | .calls f b xs bs => bids (evs σ xs) = [] ∧ noUnd (strips [] (evs σ xs)) ∧ (∀ p ∈ bs, getB σ.hp (K b p.1 p.2.1) = none) ∧ ∃ r, CtrS E.P f (strips [] (evs σ xs)) r (gsB b bs) ∧ next (put d r { σ with hp := gsB b bs ++ σ.hp })
 | .calli f xs => CSem { E with X := σ.fr :: E.X, rd := false } f (evs σ xs) σ.hp σ.tk σ.pd fun r hp' tk' pd' => next (put d r ⟨σ.fr, hp', tk', pd'⟩)
 | .callw x xs =>
  match ev σ x with
  | .clw f first caps => CSem { E with X := σ.fr :: E.X, rd := false } f (first ++ evs σ xs ++ caps) σ.hp σ.tk σ.pd fun r hp' tk' pd' => next (put d r ⟨σ.fr, hp', tk', pd'⟩)
  | .clo f first caps => CSem { E with X := σ.fr :: E.X, rd := false } f (first ++ evs σ xs ++ caps) σ.hp σ.tk σ.pd fun r hp' tk' pd' => next (put d r ⟨σ.fr, hp', tk', pd'⟩)
  | _ => False
 | .mmake _ n => σ.pd = none ∧ E.T = none ∧ ∀ l, next (put d (.mpr l) ⟨σ.fr, σ.hp, σ.tk, some (.mp l n [])⟩)
 | .mlook t x k => ∃ l n kv xs, σ.pd = some (.mp l n kv) ∧ ev σ x = .mpr l ∧ ev σ k = .agg (xs.map .int) ∧ xs.length = n ∧ (∀ y ∈ xs, inR y) ∧ MKey E.P t n ∧ next (put d (.int (kvget kv xs)) σ)
 | .yield x xs =>
  match ev σ x with
  | .yld l => E.rd = false ∧ ∃ T, E.T = some (l, T) ∧ σ.pd = none ∧ T (σ.fr :: E.X) (evs σ xs) σ.hp σ.tk fun b hp' tk' pd' => next (put d (.bool b) ⟨σ.fr, hp', tk', pd'⟩)
  | _ => False
 | op => vcond op σ ∧ next (put d (vval op σ) (vnext op σ))
def WD (dr : Bool) (d : Option Nat) (op : VOp) (next : AS → Prop) (σ : AS) : Prop :=
 match dr with
 | true => dcond op σ ∧ W1 E d op next σ
 | false => W1 E d op next σ
def WGd (dr : Bool) (v : AV) (want : Bool) (d : Option Nat) (op : VOp) (next : AS → Prop) (σ : AS) : Prop :=
 match v with
 | .bool b => match b == want with
  | true => WD E dr d op next σ
  | false => next (put d .nul σ)
 | .nul => next (put d .nul σ)
 | _ => False
def WOp (dr : Bool) (o : VOper) (next : AS → Prop) (σ : AS) : Prop :=
 match o.g with
 | none => WD E dr o.d o.op next σ
 | some (t, want) => WGd E dr (get σ.fr t) want o.d o.op next σ
def WOps (dr : Bool) : List VOper → (AS → Prop) → AS → Prop
 | [], K, σ => K σ
 | o :: r, K, σ => WOp E dr o (WOps dr r K) σ
def undL : List Nat → FrL → FrL
 | [], fr => fr
 | d :: ds, fr => (d, .und) :: undL ds fr
def Then (next : AS → Prop) (Q : Ex → AS → Prop) : Ex → AS → Prop
 | .norm, σ => next σ
 | e, σ => Q e σ
def Blk (i : Nat) (Q : Ex → AS → Prop) : Ex → AS → Prop
 | .exit j, σ => match decide (j = i) with
  | true => Q .norm σ
  | false => Q (.exit j) σ
 | e, σ => Q e σ
def Lp {ι : Type} (X : List FrL) (st : ι → AS) (I : ι → Prop) (μ : ι → Nat) (x : ι) (Q : Ex → AS → Prop) : Ex → AS → Prop
 | .norm, σ =>
  match X with
  | [] => ∃ y, I y ∧ μ y < μ x ∧ leS σ (st y)
  | X => ∃ y, I y ∧ μ y < μ x ∧ leS σ (st y) ∧ leX (st y) X
 | e, σ => Q e σ
def WPx : VC → Env → (Ex → AS → Prop) → AS → Prop
 | .skip, _, Q, σ => Q .norm σ
 | .ret, _, Q, σ => Q .ret σ
 | .exit i, _, Q, σ => Q (.exit i) σ
 | .ops dr l ks, E, Q, σ => WOps E dr l (Kp ks (Q .norm)) σ
 | .opsN dr l ks, E, Q, σ => ∃ bs, WOps E dr l (Kp ks (Q .norm)) (nrm bs σ) ∨ ∃ σ', leS (nrm bs σ) σ' ∧ leX σ' E.X ∧ WOps E dr l (Kp ks (Q .norm)) σ'
 | .opsB l1 c l2 ks, E, Q, σ => ∃ bs, WOps E true l1 (WOp E false c (WOps E true l2 (Kp ks (Q .norm)))) (nrm bs σ) ∨ ∃ σ', (leS (nrm bs σ) σ' ∨ leS σ σ') ∧ leX σ' E.X ∧ WOps E true l1 (WOp E false c (WOps E true l2 (Kp ks (Q .norm)))) σ'
 | .opsB2 l1 c l2 c' l3 ks, E, Q, σ => WOps E true l1 (WOp E false c (WOps E true l2 (WOp E false c' (WOps E true l3 (Kp ks (Q .norm)))))) σ
 | .seq a b, E, Q, σ => WPx a E (Then (WPx b E Q) Q) σ
 | .cond x a b, E, Q, σ =>
  match ev σ x with
  | .bool true => WPx a E Q σ
  | .bool false => WPx b E Q σ
  | _ => False
 | .block i c, E, Q, σ => WPx c E (Blk i Q) σ
 | .loop c, E, Q, σ => ∃ (ι : Type) (st : ι → AS) (I : ι → Prop) (μ : ι → Nat) (x₀ : ι) (bs : List Nat), I x₀ ∧ leS (frzS bs σ) (st x₀) ∧ leX (st x₀) E.X ∧ ∀ x, I x → WPx c E (Lp E.X st I μ x Q) (st x)
 | .scope c, E, Q, σ => E.rd = false ∧ WPx c E Q σ
 | .mbump t xm k ds ks, E, Q, σ => E.T = none ∧ ∃ l n kv xs, σ.pd = some (.mp l n kv) ∧ ev σ xm = .mpr l ∧ (vcond k σ ∧ dcond k σ) ∧ vval k σ = .agg (xs.map .int) ∧ xs.length = n ∧ (∀ y ∈ xs, inR y) ∧ MKey E.P t n ∧
  Kp ks (Q .norm) ⟨undL ds σ.fr, σ.hp, σ.tk, some (.mp l n (kvset kv xs (w64 (kvget kv xs + 1))))⟩
 | .range x ps a b, E, Q, σ => E.rd = false ∧ E.T = none ∧ σ.pd = none ∧
  ∀ l, (match ev σ x with
   | .clo f first caps => some (f, first ++ [AV.yld l] ++ caps)
   | .clw f first caps => some (f, first ++ [AV.yld l] ++ caps)
   | _ => none).elim False fun fa =>
    CSem { P := E.P, X := σ.fr :: E.X, T := some (l, fun Xa vals hp tk post => vals.length = ps.length ∧
      WPx a { P := E.P, X := Xa, T := none, rd := true } (Then (WPx b { P := E.P, X := Xa, T := none, rd := true } (BodyQ post)) (fun _ _ => False))
       ⟨putL ps vals σ.fr, hp, tk, none⟩), rd := false } fa.1 fa.2 σ.hp σ.tk none
     fun _ hp' tk' pd' => match pd' with
      | none => Q .norm ⟨σ.fr, hp', tk', none⟩
      | some (.mp _ _ _) => False
      | some e => Q e ⟨σ.fr, hp', tk', none⟩
def WP (E : Env) (c : VC) (Q : Ex → AS → Prop) (σ : AS) : Prop := WPx c E Q σ
end
end Go.V

set_option linter.unusedSimpArgs false
set_option linter.unusedVariables false
set_option linter.unnecessarySimpa false
namespace Go.V
open Go Go.RowKit
def mcall (o : Op) (v : VOp) : Bool :=
 match o, v with
 | .call c, .call f xs => (match c.callee with | .value (.func g) => g == f | _ => false) && opds c.args.toList xs
 | .call c, .callv x xs => (match c.callee with | .value g => opd g x | _ => false) && opds c.args.toList xs
 | .makeMap t r, .mmake t' _ => t == t' && r.isNone
 | .lookup t x k ok, .mlook t' x' k' => t == t' && (!ok && (opd x x' && opd k k'))
 | .call c, .callL f xs _ => (match c.callee with | .value (.func g) => g == f | _ => false) && opds c.args.toList xs
 | .call c, .callb f xs _ => (match c.callee with | .value (.func g) => g == f | _ => false) && opds c.args.toList xs
 | .call c, .calls f _ xs _ => (match c.callee with | .value (.func g) => g == f | _ => false) && opds c.args.toList xs
 | .call c, .callt f _ xs => (match c.callee with | .value (.func g) => g == f | _ => false) && opds c.args.toList xs
 | .call c, .calli f xs => (match c.callee with | .value (.func g) => g == f | _ => false) && opds c.args.toList xs
 | .call c, .callw x xs => (match c.callee with | .value g => opd g x | _ => false) && opds c.args.toList xs
 | .call c, .yield x xs => (match c.callee with | .value g => opd g x | _ => false) && opds c.args.toList xs
 | _, _ => false
def mopA (P : Program) (o : Op) (v : VOp) : Bool := mop P o v || mop2 P o v || mcall o v
def guardOK (ops : Array Oper) (o : Oper) (v : VOper) : Bool :=
 match o.guard, v.g with
 | none, none => true
 | some (j, want), some (t, want') => want == want' && (match (ops[j]? : Option Oper) with
  | some g => g.dst == some t
  | none => false)
 | _, _ => false
def moper (P : Program) (N : Nat) (ops : Array Oper) (o : Oper) (v : VOper) : Bool :=
 o.dst == v.d && (match v.d with | some d => decide (d < N) | none => true) && guardOK ops o v && mopA P o.op v.op
section
variable {P : Program}
variable {N : Cfg} {C0 : Nat → Nat → Prop} {w0 : World}
theorem step_any {σ : AS} {a : Act} {w : World} {o : Oper} {op : VOp} {C : Nat → Nat → Prop} {m : Nat → Option Nat} {tk : Nat → Option TK} {own : Nat → Option (Nat ⊕ Nat)}
  (h : Rel N C0 w0 σ a w C m tk own) (hm : mopA P o.op op = true) (hc : vcond op σ) : Stepped P N C0 w0 o a w (vval op σ) (vnext op σ) := by
 simp only [mopA, Bool.or_eq_true] at hm
 cases op with
 | mov x =>
  have h2 : mop2 P o.op (.mov x) = false := by cases o.op <;> rfl
  have h3 : mcall o.op (.mov x) = false := by cases o.op <;> rfl
  simp only [h2, h3, Bool.false_eq_true, or_false] at hm
  exact (q_mov h hm).stepped h
 | bin k x y =>
  have h2 : mop2 P o.op (.bin k x y) = false := by cases o.op <;> rfl
  have h3 : mcall o.op (.bin k x y) = false := by cases o.op <;> rfl
  simp only [h2, h3, Bool.false_eq_true, or_false] at hm
  exact (q_bin h hm hc).stepped h
 | not x =>
  have h2 : mop2 P o.op (.not x) = false := by cases o.op <;> rfl
  have h3 : mcall o.op (.not x) = false := by cases o.op <;> rfl
  simp only [h2, h3, Bool.false_eq_true, or_false] at hm
  exact (q_not h hm hc).stepped h
 | neg x =>
  have h2 : mop2 P o.op (.neg x) = false := by cases o.op <;> rfl
  have h3 : mcall o.op (.neg x) = false := by cases o.op <;> rfl
  simp only [h2, h3, Bool.false_eq_true, or_false] at hm
  exact (q_neg h hm hc).stepped h
 | pick c x y =>
  have h2 : mop2 P o.op (.pick c x y) = false := by cases o.op <;> rfl
  have h3 : mcall o.op (.pick c x y) = false := by cases o.op <;> rfl
  simp only [h2, h3, Bool.false_eq_true, or_false] at hm
  exact (q_pick h hm hc).stepped h
 | nils k sz =>
  have h1 : mop P o.op (.nils k sz) = false := by cases o.op <;> first | rfl | (rename_i u _ _; cases u <;> rfl)
  have h3 : mcall o.op (.nils k sz) = false := by cases o.op <;> rfl
  simp only [h1, h3, Bool.false_eq_true, or_false, false_or] at hm
  exact s_nils h hm hc
 | alloc b z =>
  have h1 : mop P o.op (.alloc b z) = false := by cases o.op <;> first | rfl | (rename_i u _ _; cases u <;> rfl)
  have h3 : mcall o.op (.alloc b z) = false := by cases o.op <;> rfl
  simp only [h1, h3, Bool.false_eq_true, or_false, false_or] at hm
  exact s_alloc h hm hc
 | box b n x =>
  have h1 : mop P o.op (.box b n x) = false := by cases o.op <;> first | rfl | (rename_i u _ _; cases u <;> rfl)
  have h3 : mcall o.op (.box b n x) = false := by cases o.op <;> rfl
  simp only [h1, h3, Bool.false_eq_true, or_false, false_or] at hm
  exact s_box h hm hc
 | load n ag x avs =>
  have h3 : mcall o.op (.load n ag x avs) = false := by cases o.op <;> rfl
  have h1 : mop2 P o.op (.load n ag x avs) = true := by
   simp only [h3, Bool.false_eq_true, or_false] at hm
   rcases hm with hm | hm
   ·cases ho : o.op <;> rw [ho] at hm <;> first | (simp [mop] at hm; done) | skip
    exact hm
   ·exact hm
  exact s_load h h1 hc
 | store n p x ob =>
  have h1 : mop P o.op (.store n p x ob) = false := by cases o.op <;> first | rfl | (rename_i u _ _; cases u <;> rfl)
  have h3 : mcall o.op (.store n p x ob) = false := by cases o.op <;> rfl
  simp only [h1, h3, Bool.false_eq_true, or_false, false_or] at hm
  exact s_store h hm hc
 | fld off x =>
  have h2 : mop2 P o.op (.fld off x) = false := by cases o.op <;> rfl
  have h3 : mcall o.op (.fld off x) = false := by cases o.op <;> rfl
  simp only [h2, h3, Bool.false_eq_true, or_false] at hm
  exact (q_fld h hm hc).stepped h
 | idx sz x y =>
  have h2 : mop2 P o.op (.idx sz x y) = false := by cases o.op <;> rfl
  have h3 : mcall o.op (.idx sz x y) = false := by cases o.op <;> rfl
  simp only [h2, h3, Bool.false_eq_true, or_false] at hm
  exact (q_idx h hm hc).stepped h
 | idxA n sz x y =>
  have h2 : mop2 P o.op (.idxA n sz x y) = false := by cases o.op <;> rfl
  have h3 : mcall o.op (.idxA n sz x y) = false := by cases o.op <;> rfl
  simp only [h2, h3, Bool.false_eq_true, or_false] at hm
  exact (q_idxA h hm hc).stepped h
 | fieldV off n ag x =>
  have h2 : mop2 P o.op (.fieldV off n ag x) = false := by cases o.op <;> rfl
  have h3 : mcall o.op (.fieldV off n ag x) = false := by cases o.op <;> rfl
  simp only [h2, h3, Bool.false_eq_true, or_false] at hm
  exact (q_fieldV h hm hc).stepped h
 | indexV n sz ag x y =>
  have h2 : mop2 P o.op (.indexV n sz ag x y) = false := by cases o.op <;> rfl
  have h3 : mcall o.op (.indexV n sz ag x y) = false := by cases o.op <;> rfl
  simp only [h2, h3, Bool.false_eq_true, or_false] at hm
  exact (q_indexV h hm hc).stepped h
 | build z ps =>
  have h1 : mop P o.op (.build z ps) = false := by cases o.op <;> first | rfl | (rename_i u _ _; cases u <;> rfl)
  have h3 : mcall o.op (.build z ps) = false := by cases o.op <;> rfl
  simp only [h1, h3, Bool.false_eq_true, or_false, false_or] at hm
  exact (s_build h hm hc).stepped h
 | bslice sz xs =>
  have h1 : mop P o.op (.bslice sz xs) = false := by cases o.op <;> first | rfl | (rename_i u _ _; cases u <;> rfl)
  have h3 : mcall o.op (.bslice sz xs) = false := by cases o.op <;> rfl
  simp only [h1, h3, Bool.false_eq_true, or_false, false_or] at hm
  exact s_bslice h hm hc
 | makes b sz by_ ag z x =>
  have h1 : mop P o.op (.makes b sz by_ ag z x) = false := by cases o.op <;> first | rfl | (rename_i u _ _; cases u <;> rfl)
  have h3 : mcall o.op (.makes b sz by_ ag z x) = false := by cases o.op <;> rfl
  simp only [h1, h3, Bool.false_eq_true, or_false, false_or] at hm
  exact s_makes h hm hc
 | make0 k sz by_ x =>
  have h1 : mop P o.op (.make0 k sz by_ x) = false := by cases o.op <;> first | rfl | (rename_i u _ _; cases u <;> rfl)
  have h3 : mcall o.op (.make0 k sz by_ x) = false := by cases o.op <;> rfl
  simp only [h1, h3, Bool.false_eq_true, or_false, false_or] at hm
  exact s_make0 h hm hc
 | app k0 sz by_ x y =>
  have h1 : mop P o.op (.app k0 sz by_ x y) = false := by cases o.op <;> first | rfl | (rename_i u _ _; cases u <;> rfl)
  have h3 : mcall o.op (.app k0 sz by_ x y) = false := by cases o.op <;> rfl
  simp only [h1, h3, Bool.false_eq_true, or_false, false_or] at hm
  exact s_app h hm hc
 | slice sz x lo hi =>
  have h2 : mop2 P o.op (.slice sz x lo hi) = false := by cases o.op <;> rfl
  have h3 : mcall o.op (.slice sz x lo hi) = false := by cases o.op <;> rfl
  simp only [h2, h3, Bool.false_eq_true, or_false] at hm
  exact (q_slice h hm hc).stepped h
 | sliceF sz x lo hi mx =>
  have h2 : mop2 P o.op (.sliceF sz x lo hi mx) = false := by cases o.op <;> rfl
  have h3 : mcall o.op (.sliceF sz x lo hi mx) = false := by cases o.op <;> rfl
  simp only [h2, h3, Bool.false_eq_true, or_false] at hm
  exact (q_sliceF h hm hc).stepped h
 | sliceA n sz ag x lo hi =>
  have h2 : mop2 P o.op (.sliceA n sz ag x lo hi) = false := by cases o.op <;> rfl
  have h3 : mcall o.op (.sliceA n sz ag x lo hi) = false := by cases o.op <;> rfl
  simp only [h2, h3, Bool.false_eq_true, or_false] at hm
  exact (q_sliceA h hm hc).stepped h
 | len x =>
  have h2 : mop2 P o.op (.len x) = false := by cases o.op <;> rfl
  have h3 : mcall o.op (.len x) = false := by cases o.op <;> rfl
  simp only [h2, h3, Bool.false_eq_true, or_false] at hm
  exact (q_len h hm hc).stepped h
 | min x y =>
  have h2 : mop2 P o.op (.min x y) = false := by cases o.op <;> rfl
  have h3 : mcall o.op (.min x y) = false := by cases o.op <;> rfl
  simp only [h2, h3, Bool.false_eq_true, or_false] at hm
  exact (q_min h hm hc).stepped h
 | max x y =>
  have h2 : mop2 P o.op (.max x y) = false := by cases o.op <;> rfl
  have h3 : mcall o.op (.max x y) = false := by cases o.op <;> rfl
  simp only [h2, h3, Bool.false_eq_true, or_false] at hm
  exact (q_max h hm hc).stepped h
 | max3 x y z =>
  have h2 : mop2 P o.op (.max3 x y z) = false := by cases o.op <;> rfl
  have h3 : mcall o.op (.max3 x y z) = false := by cases o.op <;> rfl
  simp only [h2, h3, Bool.false_eq_true, or_false] at hm
  exact (q_max3 h hm hc).stepped h
 | ext x i =>
  have h2 : mop2 P o.op (.ext x i) = false := by cases o.op <;> rfl
  have h3 : mcall o.op (.ext x i) = false := by cases o.op <;> rfl
  simp only [h2, h3, Bool.false_eq_true, or_false] at hm
  exact (q_ext h hm hc).stepped h
 | mmake t n => exact hc.elim
 | mlook t x k => exact hc.elim
 | cvu x =>
  have h2 : mop2 P o.op (.cvu x) = false := by cases o.op <;> rfl
  have h3 : mcall o.op (.cvu x) = false := by cases o.op <;> rfl
  simp only [h2, h3, Bool.false_eq_true, or_false] at hm
  exact (q_cvu h hm hc).stepped h
 | nile x =>
  have h2 : mop2 P o.op (.nile x) = false := by cases o.op <;> rfl
  have h3 : mcall o.op (.nile x) = false := by cases o.op <;> rfl
  simp only [h2, h3, Bool.false_eq_true, or_false] at hm
  exact (q_nile h hm hc).stepped h
 | nilck x =>
  have h2 : mop2 P o.op (.nilck x) = false := by cases o.op <;> rfl
  have h3 : mcall o.op (.nilck x) = false := by cases o.op <;> rfl
  simp only [h2, h3, Bool.false_eq_true, or_false] at hm
  exact (q_nilck h hm hc).stepped h
 | mkf f caps =>
  have h1 : mop P o.op (.mkf f caps) = false := by cases o.op <;> first | rfl | (rename_i u _ _; cases u <;> rfl)
  have h3 : mcall o.op (.mkf f caps) = false := by cases o.op <;> rfl
  simp only [h1, h3, Bool.false_eq_true, or_false, false_or] at hm
  exact s_mkf h hm hc
 | mkm f caps =>
  have h1 : mop P o.op (.mkm f caps) = false := by cases o.op <;> first | rfl | (rename_i u _ _; cases u <;> rfl)
  have h3 : mcall o.op (.mkm f caps) = false := by cases o.op <;> rfl
  simp only [h1, h3, Bool.false_eq_true, or_false, false_or] at hm
  exact s_mkm h hm hc
 | mkw f caps =>
  have h1 : mop P o.op (.mkw f caps) = false := by cases o.op <;> first | rfl | (rename_i u _ _; cases u <;> rfl)
  have h3 : mcall o.op (.mkw f caps) = false := by cases o.op <;> rfl
  simp only [h1, h3, Bool.false_eq_true, or_false, false_or] at hm
  exact s_mkw h hm hc
 | nilsG b ix sz ag =>
  have h1 : mop P o.op (.nilsG b ix sz ag) = false := by cases o.op <;> first | rfl | (rename_i u _ _; cases u <;> rfl)
  have h3 : mcall o.op (.nilsG b ix sz ag) = false := by cases o.op <;> rfl
  simp only [h1, h3, Bool.false_eq_true, or_false, false_or] at hm
  exact s_nilsG h hm hc
 | appG b0 ix sz by_ ag x y =>
  have h1 : mop P o.op (.appG b0 ix sz by_ ag x y) = false := by cases o.op <;> first | rfl | (rename_i u _ _; cases u <;> rfl)
  have h3 : mcall o.op (.appG b0 ix sz by_ ag x y) = false := by cases o.op <;> rfl
  simp only [h1, h3, Bool.false_eq_true, or_false, false_or] at hm
  exact s_appG h hm hc
 | bsliceW sz xs =>
  have h1 : mop P o.op (.bsliceW sz xs) = false := by cases o.op <;> first | rfl | (rename_i u _ _; cases u <;> rfl)
  have h3 : mcall o.op (.bsliceW sz xs) = false := by cases o.op <;> rfl
  simp only [h1, h3, Bool.false_eq_true, or_false, false_or] at hm
  exact s_bsliceW h hm hc
 | buildW z ps =>
  have h1 : mop P o.op (.buildW z ps) = false := by cases o.op <;> first | rfl | (rename_i u _ _; cases u <;> rfl)
  have h3 : mcall o.op (.buildW z ps) = false := by cases o.op <;> rfl
  simp only [h1, h3, Bool.false_eq_true, or_false, false_or] at hm
  exact (s_buildW h hm hc).stepped h
 | loadW n x avs =>
  have h1 : mop P o.op (.loadW n x avs) = false := by cases o.op <;> first | rfl | (rename_i u _ _; cases u <;> rfl)
  have h3 : mcall o.op (.loadW n x avs) = false := by cases o.op <;> rfl
  simp only [h1, h3, Bool.false_eq_true, or_false, false_or] at hm
  exact (s_loadW h hm hc).stepped h
 | call f xs => exact hc.elim
 | callv x xs => exact hc.elim
 | calli f xs => exact hc.elim
 | callb f xs avs => exact hc.elim
 | callL f xs avs => exact hc.elim
 | callt f i xs => exact hc.elim
 | calls f b xs bs => exact hc.elim
 | callw x xs => exact hc.elim
 | yield x xs => exact hc.elim
theorem args_rep' {σ σ' : AS} {a : Act} {w : World} {C C' : Nat → Nat → Prop} {m : Nat → Option Nat} {tk : Nat → Option TK} {own own' : Nat → Option (Nat ⊕ Nat)}
  (h : Rel N C0 w0 σ a w C m tk own) (h' : Rel N C0 w0 σ' a w C' m tk own') (hC : ∀ x o, C x o → C' x o)
  {xs : List Operand} {ys : List VO} (hx : opds xs ys = true) (hok : ∀ x ∈ strips σ'.hp (evs σ ys), x ≠ .und) : Reps0 C' w (xs.map a.eval).toArray (strips σ'.hp (evs σ ys)) := by
 obtain ⟨h1, h2⟩ := opds_get _ _ hx
 rw [strips_eq] at hok ⊢
 refine ⟨by simp [evs_length, h1], fun j c hj => ?_⟩
 have hmem := hok c (List.mem_of_getElem? hj)
 rw [List.getElem?_map, evs_get] at hj
 cases hy : ys[j]? with
 | none => simp [hy] at hj
 | some y =>
  have hlt : j < xs.length := by rw [h1]; exact (List.getElem?_eq_some_iff.1 hy).1
  have hxj : xs[j]? = some xs[j] := by simp [hlt]
  have ho := h2 j _ _ hxj hy
  have r := (opd_rep h ho).mono hC (Same.refl C w)
  simp only [hy, Option.map_some, Option.some.injEq] at hj
  subst hj
  simp only [List.getElem?_toArray, List.getElem?_map, hxj, Option.map_some, Option.getD_some]
  exact strip_rep h' r hmem
theorem noUnd_mem {l : List AV} (h : noUnd l) : ∀ x ∈ l, x ≠ .und := by
 induction l with
 | nil => simp
 | cons y r ih =>
  intro x hx e
  subst e
  cases List.mem_cons.1 hx with
  | inl e => subst e; simp [noUnd, AV.isUnd] at h
  | inr e => exact ih h.2 _ e rfl
theorem call_wp {ρ : Option Nat} {fu : Nat} {σ : AS} {a : Act} {w : World} {o : Oper} {C : Nat → Nat → Prop} {m : Nat → Option Nat} {tk : Nat → Option TK} {own : Nat → Option (Nat ⊕ Nat)}
  (h : Rel N C0 w0 σ a w C m tk own) {f : FuncId} {vs : Array Value} {args : List AV} {r : AV} (hr : Reps0 C w vs args) (hctr : Ctr P f args r)
  (hrun : ∀ fn, P.funcs[f]? = some fn → (fn.name == "runtime.NumGoroutine") = false → fn.body.isNone = false → (o.semAt ρ a.eval).run P w = .ok (.enter f vs) w)
  {d : Option Nat} (hd : ∀ t, d = some t → t < N.n) (hod : o.dst = d) {K : Act → World → Prop} {Q : Exit → Act → World → Prop}
  (hK : ∀ a' w', R N C0 w0 (put d r σ) a' w' → K a' w') : o.wpIn (Fr ρ) fu P a w K Q := by
 obtain ⟨hcall, hctr⟩ := hctr
 have hc := hctr C w vs h.gfw hr
 unfold callable at hcall
 cases hf : P.funcs[f]? with
 | none => simp [hf] at hcall
 | some fn =>
  simp only [hf, Bool.and_eq_true, Bool.not_eq_true'] at hcall
  have hr2 := hrun fn hf hcall.1 (by rw [Option.isNone_eq_false_iff]; exact hcall.2)
  refine ⟨fun _ _ => trivial, ?_⟩
  show o.uponIn (Fr ρ) fu P a K Q ((o.semAt ρ a.eval).run P w)
  rw [hr2]
  refine ⟨fun x => by simp [Fr, Fence.wide] at x, callsIn_fr.2 (hc.mono fun e w' he => ?_)⟩
  obtain ⟨v, C', rfl, hb, hv, hC, hC', hrep⟩ := he
  simp only
  apply hK
  rw [hod]
  exact ⟨C', m, tk, own, (h.later hb hC hC' hv).put hd hrep.toRep⟩
theorem callb_wp {ρ : Option Nat} {fu : Nat} {σ : AS} {a : Act} {w : World} {o : Oper} {C C1 : Nat → Nat → Prop} {m : Nat → Option Nat} {tk : Nat → Option TK} {own : Nat → Option (Nat ⊕ Nat)}
  (h : Rel N C0 w0 σ a w C m tk own) {f : FuncId} {vs : Array Value} {args : List AV} {r : AV} (hcv : CVg C1 w) (hr : Reps0 C1 w vs args) (hctr : CtrN P f args r)
  (hrun : ∀ fn, P.funcs[f]? = some fn → (fn.name == "runtime.NumGoroutine") = false → fn.body.isNone = false → (o.semAt ρ a.eval).run P w = .ok (.enter f vs) w)
  {d : Option Nat} (hd : ∀ t, d = some t → t < N.n) (hod : o.dst = d) {K : Act → World → Prop} {Q : Exit → Act → World → Prop}
  (hK : ∀ a' w', R N C0 w0 (put d r σ) a' w' → K a' w') : o.wpIn (Fr ρ) fu P a w K Q := by
 obtain ⟨hcall, hctr⟩ := hctr
 have hc := hctr C1 w vs hcv hr
 unfold callable at hcall
 cases hf : P.funcs[f]? with
 | none => simp [hf] at hcall
 | some fn =>
  simp only [hf, Bool.and_eq_true, Bool.not_eq_true'] at hcall
  have hr2 := hrun fn hf hcall.1 (by rw [Option.isNone_eq_false_iff]; exact hcall.2)
  refine ⟨fun _ _ => trivial, ?_⟩
  show o.uponIn (Fr ρ) fu P a K Q ((o.semAt ρ a.eval).run P w)
  rw [hr2]
  refine ⟨fun x => by simp [Fr, Fence.wide] at x, callsIn_fr.2 (hc.mono fun e w' he => ?_)⟩
  obtain ⟨v, C', rfl, hb, hv, hnew, hrep⟩ := he
  simp only
  apply hK
  rw [hod]
  refine ⟨fun b o => C b o ∨ C' b o, m, tk, own, (h.later hb (fun _ _ x => .inl x) (fun b o x => x.elim .inl fun y => .inr (hnew b o y)) fun b o x => x.elim (fun y => Nat.lt_of_lt_of_le (h.cval b o y) hb.size) (hv b o)).put hd (hrep.mono (fun _ _ x => .inr x) (Same.refl _ _)).toRep⟩
theorem calls_wp {ρ : Option Nat} {fu : Nat} {σ : AS} {a : Act} {w : World} {o : Oper} {C : Nat → Nat → Prop} {m : Nat → Option Nat} {tk : Nat → Option TK} {own : Nat → Option (Nat ⊕ Nat)}
  (h : Rel N C0 w0 σ a w C m tk own) {f : FuncId} {vs : Array Value} {args : List AV} {r : AV} {bs : List (Nat × BX)} (hr : Reps0 C w vs args) (hctr : CtrS P f args r bs) (hfr : ∀ b, (getB bs b).isSome = true → getB σ.hp b = none)
  (hrun : ∀ fn, P.funcs[f]? = some fn → (fn.name == "runtime.NumGoroutine") = false → fn.body.isNone = false → (o.semAt ρ a.eval).run P w = .ok (.enter f vs) w)
  {d : Option Nat} (hd : ∀ t, d = some t → t < N.n) (hod : o.dst = d) {K : Act → World → Prop} {Q : Exit → Act → World → Prop}
  (hK : ∀ a' w', R N C0 w0 (put d r { σ with hp := bs ++ σ.hp }) a' w' → K a' w') : o.wpIn (Fr ρ) fu P a w K Q := by
 obtain ⟨hcall, hctr⟩ := hctr
 have hc := hctr C w vs h.gfw hr
 unfold callable at hcall
 cases hf : P.funcs[f]? with
 | none => simp [hf] at hcall
 | some fn =>
  simp only [hf, Bool.and_eq_true, Bool.not_eq_true'] at hcall
  have hr2 := hrun fn hf hcall.1 (by rw [Option.isNone_eq_false_iff]; exact hcall.2)
  refine ⟨fun _ _ => trivial, ?_⟩
  show o.uponIn (Fr ρ) fu P a K Q ((o.semAt ρ a.eval).run P w)
  rw [hr2]
  refine ⟨fun x => by simp [Fr, Fence.wide] at x, callsIn_fr.2 (hc.mono fun e w' he => ?_)⟩
  obtain ⟨v, C', m', own', rfl, hb, hv, hC, hC', hrep, hbx, hdm, how⟩ := he
  simp only
  apply hK
  rw [hod]
  have h1 := h.later hb hC hC' hv
  have h2 := h1.addS (sz := w.heap.size) h.below.size (fun blk x e => h.owned blk x e) hfr hbx hdm how
  exact ⟨C', _, tk, _, h2.put hd (hrep.ext (fun b blk e => by simp only [e]) fun k T e => by cases e)⟩
theorem callt_wp {ρ : Option Nat} {fu : Nat} {σ : AS} {a : Act} {w : World} {o : Oper} {C : Nat → Nat → Prop} {m : Nat → Option Nat} {tk : Nat → Option TK} {own : Nat → Option (Nat ⊕ Nat)}
  (h : Rel N C0 w0 σ a w C m tk own) {f : FuncId} {i : Nat} {vs : List Value} {a0 : Array Value} {args : List AV} {r : AV} {k : Nat} (hi : a0.size = k) (hone : ∀ j, j < k → (a0[j]?.getD undef).oneCell' = true) (hr : Reps0 C w vs.toArray args) (hrep : Rep1 C w m (a0[i]?.getD undef) r) (hctr : CtrT P f i k args)
  (hrun : ∀ fn, P.funcs[f]? = some fn → (fn.name == "runtime.NumGoroutine") = false → fn.body.isNone = false → (o.semAt ρ a.eval).run P w = .ok (.enter f (Value.agg a0 :: vs).toArray) w)
  {d : Option Nat} (hd : ∀ t, d = some t → t < N.n) (hod : o.dst = d) {K : Act → World → Prop} {Q : Exit → Act → World → Prop}
  (hK : ∀ a' w', R N C0 w0 (put d r σ) a' w' → K a' w') : o.wpIn (Fr ρ) fu P a w K Q := by
 obtain ⟨hcall, hctr⟩ := hctr
 have hc := hctr C w a0 vs hi hone h.gfw hr
 unfold callable at hcall
 cases hf : P.funcs[f]? with
 | none => simp [hf] at hcall
 | some fn =>
  simp only [hf, Bool.and_eq_true, Bool.not_eq_true'] at hcall
  have hr2 := hrun fn hf hcall.1 (by rw [Option.isNone_eq_false_iff]; exact hcall.2)
  refine ⟨fun _ _ => trivial, ?_⟩
  show o.uponIn (Fr ρ) fu P a K Q ((o.semAt ρ a.eval).run P w)
  rw [hr2]
  refine ⟨fun x => by simp [Fr, Fence.wide] at x, callsIn_fr.2 (hc.mono fun e w' he => ?_)⟩
  obtain ⟨rfl, hb⟩ := he
  simp only
  apply hK
  rw [hod]
  have hs := same_of_below h.cval hb
  exact ⟨C, m, tk, own, (h.later hb (fun _ _ x => x) (fun _ _ x => .inl x) (fun b o x => Nat.lt_of_lt_of_le (h.cval b o x) hb.size)).put hd (rep1_toRep (hrep.mono (fun _ _ x => x) hs))⟩
section frames
variable {n : Nat} {X : List (Array Value × List (Nat × AV))} {KK : List (Nat × Obj)} {L : Option (Nat × (Option Ex → Obj))}
theorem defs_mem (ds : List Deferred) (KK : List (Nat × Obj)) : ∀ q ∈ ds.map dk ++ KK, q ∈ KK ∨ q.2 = .deferred (some []) := by
 intro q hq
 rcases List.mem_append.1 hq with h | h
 ·obtain ⟨d, _, rfl⟩ := List.mem_map.1 h
  exact .inr rfl
 ·exact .inl h
theorem Rel.push {σ : AS} {a : Act} {w : World} {C : Nat → Nat → Prop} {m : Nat → Option Nat} {tk : Nat → Option TK} {own : Nat → Option (Nat ⊕ Nat)}
  (h : Rel ⟨n, X, KK, L⟩ C0 w0 σ a w C m tk own) : Rel ⟨0, (a.tmps, σ.fr) :: X, a.defers.map dk ++ KK, L⟩ C0 w0 ⟨[], σ.hp, σ.tk, σ.pd⟩ a0 w C m tk own := by
 refine { gf := h.gf, below := h.below, c0 := h.c0, cnew := h.cnew, cval := h.cval, nc := ⟨?_, h.nc.l, (fun d hd => by simp [a0] at hd), List.nodup_nil, (fun d hd => by simp [a0] at hd), h.nc.m⟩, ext := ?_, size := rfl, slots := fun t => trivial, boxes := h.boxes, mdom := h.mdom, toks := h.toks, tdom := h.tdom, owned := h.owned, owns := h.owns }
 ·intro p hp
  rcases List.mem_append.1 hp with hp | hp
  ·obtain ⟨d, hd, rfl⟩ := List.mem_map.1 hp
   obtain ⟨D, rfl, hs⟩ := h.nc.d d hd
   exact hs
  ·exact h.nc.k p hp
 ·intro p hp
  rcases List.mem_cons.1 hp with rfl | hp
  ·exact h.slots
  ·exact h.ext p hp
theorem Rel.addX {σ : AS} {a : Act} {w : World} {C : Nat → Nat → Prop} {m : Nat → Option Nat} {tk : Nat → Option TK} {own : Nat → Option (Nat ⊕ Nat)} {vs : Array Value} {fr : FrL}
  (h : Rel ⟨n, X, KK, L⟩ C0 w0 σ a w C m tk own) (hf : ∀ t, Rep C w m tk (vs[t]?.getD undef) (get fr t)) : Rel ⟨n, (vs, fr) :: X, KK, L⟩ C0 w0 σ a w C m tk own := by
 refine { gf := h.gf, below := h.below, c0 := h.c0, cnew := h.cnew, cval := h.cval, nc := ⟨h.nc.k, h.nc.l, h.nc.d, h.nc.nd, h.nc.dis, h.nc.m⟩, ext := ?_, size := h.size, slots := h.slots, boxes := h.boxes, mdom := h.mdom, toks := h.toks, tdom := h.tdom, owned := h.owned, owns := h.owns }
 intro p hp
 rcases List.mem_cons.1 hp with rfl | hp
 ·exact hf
 ·exact h.ext p hp
theorem Rel.pop {X1 : List (Array Value × List (Nat × AV))} {K1 : List (Nat × Obj)} {hp : HpL} {tkl : TkL} {pd : Option Ex} {w : World} {C : Nat → Nat → Prop} {m : Nat → Option Nat} {tk : Nat → Option TK} {own : Nat → Option (Nat ⊕ Nat)}
  (h : Rel ⟨0, X1, K1, L⟩ C0 w0 ⟨[], hp, tkl, pd⟩ a0 w C m tk own) {tmps : Array Value} {fr : FrL} {ds : List Deferred} (hmem : ∀ t : Nat, Rep C w m tk (tmps[t]?.getD undef) (get fr t)) (hX : ∀ p ∈ X, p ∈ X1) (hK : ∀ q ∈ KK, q ∈ K1)
  (hds : ∀ d ∈ ds, ∃ D, d = { target := .collected D, args := #[] } ∧ dk d ∈ K1) (hnd : (ds.map fun d => (dk d).1).Nodup) (hdis : ∀ d ∈ ds, (∀ q ∈ KK, q.1 ≠ (dk d).1) ∧ ∀ l f, L = some (l, f) → l ≠ (dk d).1) (hn : tmps.size = n) : Rel ⟨n, X, KK, L⟩ C0 w0 ⟨fr, hp, tkl, pd⟩ ⟨tmps, ds⟩ w C m tk own := by
 refine { gf := h.gf, below := h.below, c0 := h.c0, cnew := h.cnew, cval := h.cval, nc := ⟨fun q hq => h.nc.k q (hK q hq), h.nc.l, fun d hd => ?_, hnd, hdis, h.nc.m⟩, ext := fun p hp => h.ext p (hX p hp), size := hn, slots := hmem, boxes := h.boxes, mdom := h.mdom, toks := h.toks, tdom := h.tdom, owned := h.owned, owns := h.owns }
 obtain ⟨D, rfl, hd'⟩ := hds d hd
 exact ⟨D, rfl, h.nc.k _ hd'⟩
theorem get_args0 (args : List AV) : ∀ (n t : Nat), get (args0 n args) t = if n ≤ t then args[t - n]?.getD .und else .und := by
 induction args with
 | nil => intro n t; simp [args0, get]
 | cons x r ih =>
  intro n t
  simp only [args0, get, ih]
  by_cases e : n = t
  ·subst e; simp
  ·rw [if_neg e]
   by_cases hle : n ≤ t
   ·rw [if_pos hle, if_pos (by omega)]
    have : t - n = (t - (n + 1)) + 1 := by omega
    rw [this]
    simp
   ·rw [if_neg hle, if_neg (by omega)]
theorem get_args (args : List AV) (t : Nat) : get (args0 0 args) t = args[t]?.getD .und := by
 rw [get_args0]; simp
theorem args_own {σ : AS} {a : Act} {w : World} {C : Nat → Nat → Prop} {m : Nat → Option Nat} {tk : Nat → Option TK} {own : Nat → Option (Nat ⊕ Nat)}
  (h : Rel N C0 w0 σ a w C m tk own) {xs : List Operand} {ys : List VO} (hx : opds xs ys = true) :
  (xs.map a.eval).toArray.size = (evs σ ys).length ∧ ∀ t : Nat, Rep C w m tk ((xs.map a.eval).toArray[t]?.getD undef) ((evs σ ys)[t]?.getD .und) := by
 obtain ⟨h1, h2⟩ := opds_get _ _ hx
 refine ⟨by simp [evs_length, h1], fun t => ?_⟩
 rw [evs_get]
 cases hy : ys[t]? with
 | none => exact trivial
 | some y =>
  have hlt : t < xs.length := by rw [h1]; exact (List.getElem?_eq_some_iff.1 hy).1
  have hxj : xs[t]? = some xs[t] := by simp [hlt]
  have r := opd_rep h (h2 t _ _ hxj hy)
  simpa [hxj] using r
theorem rep_of_rep1 {w : World} {C : Nat → Nat → Prop} {m : Nat → Option Nat} {tk : Nat → Option TK} {v : Value} {av : AV} (hv : Rep1 C w m v av) (hk : av.okw = true) : Rep C w m tk v av := by
 cases av <;> first | (simp [AV.okw] at hk; done) | exact hv
theorem csem_wp {E : Env} {ρ : Option Nat} {fu : Nat} {σ : AS} {a : Act} {w : World} {o : Oper} {C : Nat → Nat → Prop} {m : Nat → Option Nat} {tk : Nat → Option TK} {own : Nat → Option (Nat ⊕ Nat)}
  (hX : X.map (·.2) = E.X) (hY : YSnd E.P E.T C0 w0 X KK L)
  (h : Rel ⟨n, X, KK, L⟩ C0 w0 σ a w C m tk own) {f : FuncId} {vs : Array Value} {args : List AV} (hsz : vs.size = args.length) (hargs : ∀ t : Nat, Rep C w m tk (vs[t]?.getD undef) (args[t]?.getD .und))
  {d : Option Nat} {next : AS → Prop} (hcs : CSem { E with X := σ.fr :: E.X, rd := false } f args σ.hp σ.tk σ.pd fun r hp' tk' pd' => next (put d r ⟨σ.fr, hp', tk', pd'⟩))
  (hrun : ∀ fn, E.P.funcs[f]? = some fn → (fn.name == "runtime.NumGoroutine") = false → fn.body.isNone = false → (o.semAt ρ a.eval).run E.P w = .ok (.enter f vs) w)
  (hd : ∀ t, d = some t → t < n) (hod : o.dst = d) {K : Act → World → Prop} {Q : Exit → Act → World → Prop}
  (hK : ∀ σ' a' w', R ⟨n, X, KK, L⟩ C0 w0 σ' a' w' → next σ' → K a' w') : o.wpIn (Fr ρ) fu E.P a w K Q := by
 obtain ⟨hcall, hcs⟩ := hcs
 have hp := h.push.addX (vs := vs) (fr := args0 0 args) (fun t => by rw [get_args]; exact hargs t)
 have hc := hcs C0 w0 ((a.tmps, σ.fr) :: X) (a.defers.map dk ++ KK) L w vs (by simp [hX]) (hY.mono (fun p hp => by simp [hp]) (fun q hq => by simp [hq]) (defs_mem _ _)) hsz ⟨C, m, tk, own, hp⟩
 unfold callable at hcall
 simp only at hcall
 cases hf : E.P.funcs[f]? with
 | none => simp [hf] at hcall
 | some fn =>
  simp only [hf, Bool.and_eq_true, Bool.not_eq_true'] at hcall
  have hr2 := hrun fn hf hcall.1 (by rw [Option.isNone_eq_false_iff]; exact hcall.2)
  refine ⟨fun _ _ => trivial, ?_⟩
  show o.uponIn (Fr ρ) fu E.P a K Q ((o.semAt ρ a.eval).run E.P w)
  rw [hr2]
  refine ⟨fun x => by simp [Fr, Fence.wide] at x, callsIn_fr.2 (hc.mono fun e w' he => ?_)⟩
  obtain ⟨v, r, hp', tk', pd', rfl, hq, C', m', tk1, own', hrel⟩ := he
  simp only
  have hpop : Rel ⟨n, X, KK, L⟩ C0 w0 ⟨σ.fr, hp', tk', pd'⟩ ⟨a.tmps, a.defers⟩ w' C' m' tk1 own' := by
   refine hrel.pop (fun t => hrel.ext (a.tmps, σ.fr) (by simp) t) (fun p hp => by simp [hp]) (fun q hq => by simp [hq]) (fun d hd => ?_) h.nc.nd h.nc.dis h.size
   obtain ⟨D, e, _⟩ := h.nc.d d hd
   exact ⟨D, e, List.mem_append.2 (.inl (List.mem_map.2 ⟨d, hd, rfl⟩))⟩
  have hv : Rep C' w' m' tk1 v r := by
   have := hrel.ext (#[v], [(0, r)]) (by simp) 0
   simpa [get] using this
  rw [hod]
  exact hK _ _ _ ⟨C', m', tk1, own', hpop.put hd hv⟩ hq
theorem cell_putMap {w : World} {l : Nat} {es es' : Array MapEntry} {ck ck' : Nat} (hl : w.heap[l]? = some (.map es ck)) (p : Addr) : (w.putObj l (.map es' ck')).cell? p = w.cell? p := by
 simp only [World.cell?]
 by_cases e : p.block = l
 ·rw [e, World.putObj_heap_same (Array.getElem?_eq_some_iff.1 hl).1, hl]
 ·rw [World.putObj_heap_other e]
theorem Rel.putMap {σ : AS} {a : Act} {w : World} {C : Nat → Nat → Prop} {m : Nat → Option Nat} {tk : Nat → Option TK} {own : Nat → Option (Nat ⊕ Nat)} {l ln : Nat} {es es' : Array MapEntry} {ck ck' : Nat} {kv' : List (List Int × Int)}
  (h : Rel ⟨n, X, KK, none⟩ C0 w0 σ a w C m tk own) (hl : w.heap[l]? = some (.map es ck)) (hge : w0.heap.size ≤ l) (hm : MapIs es' ck' ln kv') :
  Rel ⟨n, X, KK, none⟩ C0 w0 ⟨σ.fr, σ.hp, σ.tk, some (.mp l ln kv')⟩ a (w.putObj l (.map es' ck')) C m tk own := by
 have hs : Same C w (w.putObj l (.map es' ck')) := by
  refine ⟨fun b i _ => cell_putMap hl _, ?_⟩
  rintro blk k ⟨vs, ty, h1, h2⟩
  refine ⟨vs, ty, ?_, h2⟩
  have : blk ≠ l := by rintro rfl; rw [hl] at h1; cases h1
  rw [World.putObj_heap_other this]; exact h1
 have hblk : ∀ {b : Nat} {vs : Array Value} {ty : TypeId} {g : Nat × Nat}, w.heap[b]? = some (.cells vs ty g) → (w.putObj l (.map es' ck')).heap[b]? = some (.cells vs ty g) := by
  intro b vs ty g hb
  have : b ≠ l := by rintro rfl; rw [hl] at hb; cases hb
  rw [World.putObj_heap_other this]; exact hb
 have hst : ∀ {b : Nat} {x : Obj}, Stay w0.heap.size w b x → Stay w0.heap.size (w.putObj l (.map es' ck')) b x := by
  intro b x hy
  have : b ≠ l := by
   intro e
   have h1 := hy.2.1
   have h2 := hy.2.2
   rw [e, hl] at h1
   injection h1 with h1
   rw [← h1] at h2
   simp [ctl] at h2
  exact ⟨hy.1, by rw [World.putObj_heap_other this]; exact hy.2.1, hy.2.2⟩
 refine { gf := h.gf, below := h.below.trans ⟨rfl, rfl, rfl, by simp, fun k hk => World.putObj_heap_other (by omega)⟩, c0 := h.c0, cnew := h.cnew, cval := fun b i hb => by simpa using h.cval b i hb, nc := ⟨fun q hq => hst (h.nc.k q hq), (fun _ _ e => by cases e), fun d hdd => ?_, h.nc.nd, h.nc.dis, ?_⟩, ext := fun p hp t => (h.ext p hp t).mono (fun _ _ x => x) hs, size := h.size,
          slots := fun t => (h.slots t).mono (fun _ _ x => x) hs, boxes := ?_, mdom := h.mdom, toks := ?_, tdom := h.tdom, owned := fun b x hx => by simpa using h.owned b x hx, owns := h.owns }
 ·obtain ⟨D, rfl, hD⟩ := h.nc.d d hdd
  exact ⟨D, rfl, hst hD⟩
 ·intro l' n' kv2 e
  simp only [Option.some.injEq, Ex.mp.injEq] at e
  obtain ⟨rfl, rfl, rfl⟩ := e
  exact ⟨hge, es', ck', World.putObj_heap_same (Array.getElem?_eq_some_iff.1 hl).1, hm⟩
 ·intro b bx hb
  obtain ⟨blk, e1, e2⟩ := h.boxes b bx hb
  refine ⟨blk, e1, ?_⟩
  unfold BoxOK at e2 ⊢
  cases hf : bx.frz with
  | true =>
   simp only [hf] at e2 ⊢
   intro j av hj
   obtain ⟨f1, f2, v, f3, f4⟩ := e2 j av hj
   exact ⟨f1, f2, v, by rw [hs.1 _ _ f1]; exact f3, f4.mono (fun _ _ x => x) hs⟩
  | false =>
   simp only [hf] at e2 ⊢
   rcases e2 with e2 | e2
   ·exact .inl e2
   obtain ⟨f1, f2, f3, vs, ty, f4, f5, f6⟩ := e2
   refine .inr ⟨f1, f2, f3, vs, ty, hblk f4, f5, fun j av hj => ?_⟩
   obtain ⟨g1, g2, g3⟩ := f6 j av hj
   exact ⟨g1, g2, g3.mono (fun _ _ x => x) hs⟩
 ·intro k i hk
  obtain ⟨T, e1, e2, e3, e4⟩ := h.toks k i hk
  refine ⟨T, e1, e2, e3, fun hlt => ?_⟩
  obtain ⟨blk, f1, f2, f3, f4, vs, ty, f5, f6⟩ := e4 hlt
  exact ⟨blk, f1, f2, f3, f4, vs, ty, hblk f5, f6⟩
theorem Rel.newMap {σ : AS} {a : Act} {w : World} {C : Nat → Nat → Prop} {m : Nat → Option Nat} {tk : Nat → Option TK} {own : Nat → Option (Nat ⊕ Nat)} (ln : Nat)
  (h : Rel ⟨n, X, KK, none⟩ C0 w0 σ a w C m tk own) : Rel ⟨n, X, KK, none⟩ C0 w0 ⟨σ.fr, σ.hp, σ.tk, some (.mp w.heap.size ln [])⟩ a (w.alloc (.map #[] 0)) C m tk own := by
 have hb : Below w.heap.size w (w.alloc (.map #[] 0)) := (Below.refl _ w).alloc (Nat.le_refl _) _
 have h1 := h.later hb (fun _ _ x => x) (fun _ _ x => .inl x) (fun b o x => Nat.lt_of_lt_of_le (h.cval b o x) hb.size)
 refine { gf := h1.gf, below := h1.below, c0 := h1.c0, cnew := h1.cnew, cval := h1.cval, nc := ⟨h1.nc.k, (fun _ _ e => by cases e), h1.nc.d, h1.nc.nd, h1.nc.dis, ?_⟩, ext := h1.ext, size := h1.size, slots := h1.slots, boxes := h1.boxes, mdom := h1.mdom, toks := h1.toks, tdom := h1.tdom, owned := h1.owned, owns := h1.owns }
 intro l' n' kv2 e
 simp only [Option.some.injEq, Ex.mp.injEq] at e
 obtain ⟨rfl, rfl, rfl⟩ := e
 exact ⟨h.below.size, #[], 0, World.alloc_heap_new w _, ⟨rfl, (fun p hp => by simp at hp), by simp, by simp, fun e he => by simp at he⟩⟩
theorem yield_wp {E : Env} {fu : Nat} {σ : AS} {a : Act} {w : World} {o : Oper} {C : Nat → Nat → Prop} {m : Nat → Option Nat} {tk : Nat → Option TK} {own : Nat → Option (Nat ⊕ Nat)}
  (hX : X.map (·.2) = E.X) (hY : YSnd E.P E.T C0 w0 X KK L)
  (h : Rel ⟨n, X, KK, L⟩ C0 w0 σ a w C m tk own) {l : Nat} {T : YT} (hT : E.T = some (l, T)) (hpd : σ.pd = none) {vs : Array Value} {args : List AV} (hsz : vs.size = args.length) (hargs : ∀ t : Nat, Rep C w m tk (vs[t]?.getD undef) (args[t]?.getD .und))
  {d : Option Nat} {next : AS → Prop} (hcs : T (σ.fr :: E.X) args σ.hp σ.tk fun b hp' tk' pd' => next (put d (.bool b) ⟨σ.fr, hp', tk', pd'⟩))
  (hrun : (execOp a.eval o).run E.P w = (Instr.yield l vs).run E.P w)
  (hd : ∀ t, d = some t → t < n) (hod : o.dst = d) {K : Act → World → Prop} {Q : Exit → Act → World → Prop}
  (hK : ∀ σ' a' w', R ⟨n, X, KK, L⟩ C0 w0 σ' a' w' → next σ' → K a' w') : o.wpIn (Fr none) fu E.P a w K Q := by
 obtain ⟨lf, hL, hyy⟩ := hY.2 l T hT
 subst hL
 have hp := h.push.addX (vs := vs) (fr := args0 0 args) (fun t => by rw [get_args]; exact hargs t)
 rw [hpd] at hp
 obtain ⟨fn, tmps, assign, body, hrn, hround⟩ := hyy ((a.tmps, σ.fr) :: X) (a.defers.map dk ++ KK) args vs σ.hp σ.tk _ w (fun p hp => by simp [hp]) (fun q hq => by simp [hq]) (defs_mem _ _) (by simpa [hX] using hcs) hsz ⟨C, m, tk, own, hp⟩
 refine ⟨fun _ _ => trivial, ?_⟩
 show o.uponIn (Fr none) fu E.P a K Q ((execOp a.eval o).run E.P w)
 rw [hrun, hrn]
 refine ⟨fun x => by simp [Fr, Fence.wide] at x, hround.1, fun c cs hroom => ?_⟩
 obtain ⟨e, w', hq, hs⟩ := hround.2 c cs (fun d hd => by simp [Fr, Fence.wide] at hd)
 refine ⟨e, w', ?_, hs⟩
 obtain ⟨b, hp', tk', pd', rfl, hnx, C', m', tk1, own', hrel⟩ := hq
 simp only
 have hpop : Rel ⟨n, X, KK, some (l, lf)⟩ C0 w0 ⟨σ.fr, hp', tk', pd'⟩ ⟨a.tmps, a.defers⟩ w' C' m' tk1 own' := by
  refine hrel.pop (fun t => hrel.ext (a.tmps, σ.fr) (by simp) t) (fun p hp => by simp [hp]) (fun q hq => by simp [hq]) (fun d hd => ?_) h.nc.nd h.nc.dis h.size
  obtain ⟨D, e, _⟩ := h.nc.d d hd
  exact ⟨D, e, List.mem_append.2 (.inl (List.mem_map.2 ⟨d, hd, rfl⟩))⟩
 rw [hod]
 exact hK _ _ _ ⟨C', m', tk1, own', hpop.put hd (av := .bool b) (Rep0.bool b)⟩ hnx
theorem rep_kval {w : World} {C : Nat → Nat → Prop} {m : Nat → Option Nat} {tk : Nat → Option TK} {v : Value} {xs : List Int} (h : Rep C w m tk v (.agg (xs.map .int))) : v = kval xs := by
 have h' : Rep0 C w v (.agg (xs.map .int)) := h
 cases h' with
 | agg vs cs hn hk hr =>
  unfold kval
  congr 1
  apply Array.ext'
  rw [List.toList_toArray]
  apply List.ext_getElem?
  intro i
  rw [List.getElem?_map]
  cases hx : xs[i]? with
  | none =>
   have : xs.length ≤ i := List.getElem?_eq_none_iff.1 hx
   simp only [Option.map_none, List.getElem?_eq_none_iff, Array.length_toList]
   rw [hn]; simp; exact this
  | some x =>
   have h1 := hr i (.int x) (by rw [List.getElem?_map, hx]; rfl)
   have hlt : i < vs.size := by rw [hn]; simpa using (List.getElem?_eq_some_iff.1 hx).1
   have h2 : vs.toList[i]? = some vs[i] := by simp [hlt]
   rw [h2]
   simp only [Array.getElem?_eq_getElem hlt, Option.getD_some] at h1
   simp only [Option.map_some, Option.some.injEq]
   generalize vs[i] = u at h1
   cases h1
   rfl
theorem w1_wp {E : Env} {ρ : Option Nat} {fu : Nat} (hX : X.map (·.2) = E.X) (hY : YSnd E.P E.T C0 w0 X KK L) (hρ : E.rd = false → ρ = none)
  {σ : AS} {a : Act} {w : World} {o : Oper} {op : VOp} (h : R ⟨n, X, KK, L⟩ C0 w0 σ a w) (hm : mopA E.P o.op op = true) {d : Option Nat} (hd : ∀ t, d = some t → t < n) (hod : o.dst = d)
  {next : AS → Prop} (hw : W1 E d op next σ) {K : Act → World → Prop} {Q : Exit → Act → World → Prop} (hK : ∀ σ' a' w', R ⟨n, X, KK, L⟩ C0 w0 σ' a' w' → next σ' → K a' w') : o.wpIn (Fr ρ) fu E.P a w K Q := by
 obtain ⟨C, m, tk, own, h⟩ := h
 have hsem : (∀ c, o.op ≠ .defer c) → o.semAt ρ a.eval = execOp a.eval o := fun h => Oper.semAt_eq ρ _ o h
 have main : ∀ (hc : vcond op σ) (hn : next (put d (vval op σ) (vnext op σ))), o.wpIn (Fr ρ) fu E.P a w K Q := by
  intro hc hn
  have hnd : ∀ c, o.op ≠ .defer c := by
   intro c e
   rw [e] at hm
   cases op <;> simp [mopA, mop, mop2, mcall] at hm
  obtain ⟨v, w', C', m', tk', own', hex, hrel, hrep⟩ := step_any h hm hc
  have hk := hK _ (a.put d v) w' ⟨C', m', tk', own', hrel.put hd hrep⟩ hn
  refine ⟨fun _ _ => trivial, ?_⟩
  show o.uponIn (Fr ρ) fu E.P a K Q ((o.semAt ρ a.eval).run E.P w)
  rw [hsem hnd]
  rcases hex with hex | ⟨hex, rfl⟩
  ·rw [hex]; simp only [Oper.uponIn]; rw [hod]; exact hk
  ·rw [hex]; simp only [Oper.uponIn]; rw [hod]; exact hk
 cases op with
 | mmake t ln =>
  have h1 : mop E.P o.op (.mmake t ln) = false := by cases o.op <;> first | rfl | (rename_i u _ _; cases u <;> rfl)
  have h2 : mop2 E.P o.op (.mmake t ln) = false := by cases o.op <;> rfl
  simp only [mopA, h1, h2, Bool.false_or] at hm
  cases ho : o.op <;> rw [ho] at hm <;> first | (simp [mcall] at hm; done) | skip
  rename_i t' rsv
  simp only [mcall, Bool.and_eq_true, Option.isNone_iff_eq_none] at hm
  obtain ⟨_, rfl⟩ := hm
  obtain ⟨hpd, hT, hn⟩ := hw
  have hL := hY.1 hT
  subst hL
  have hrel := h.newMap ln
  refine ⟨fun _ _ => trivial, ?_⟩
  show o.uponIn (Fr ρ) fu E.P a K Q ((o.semAt ρ a.eval).run E.P w)
  rw [hsem (by simp [ho])]
  have hex : (execOp a.eval o).run E.P w = .ok (.value (.map (some w.heap.size))) (w.alloc (.map #[] 0)) := by
   simp [execOp, ho, Instr.makeMap]
  rw [hex]
  simp only [Oper.uponIn]
  rw [hod]
  exact hK _ _ _ ⟨C, m, tk, own, hrel.put hd (av := .mpr w.heap.size) (Rep0.mpr _).toRep⟩ (hn w.heap.size)
 | mlook t x k =>
  have h1 : mop E.P o.op (.mlook t x k) = false := by cases o.op <;> first | rfl | (rename_i u _ _; cases u <;> rfl)
  have h2 : mop2 E.P o.op (.mlook t x k) = false := by cases o.op <;> rfl
  simp only [mopA, h1, h2, Bool.false_or] at hm
  cases ho : o.op <;> rw [ho] at hm <;> first | (simp [mcall] at hm; done) | skip
  rename_i t' x' k' ok
  simp only [mcall, Bool.and_eq_true, beq_iff_eq, Bool.not_eq_true'] at hm
  obtain ⟨rfl, rfl, m1, m2⟩ := hm
  obtain ⟨l, ln, kv, xs, hpd, hx, hk, hxl, hxr, hK1, hn⟩ := hw
  obtain ⟨hge, es, ck, hb, hmi⟩ := h.nc.m l ln kv hpd
  have r1 := opd_rep h m1
  have r2 := opd_rep h m2
  rw [hx] at r1
  rw [hk] at r2
  have e1 : a.eval x' = .map (some l) := by
   have r1' : Rep0 C w (a.eval x') (.mpr l) := r1
   cases hq : a.eval x' <;> rw [hq] at r1' <;> cases r1'
   rfl
  have e2 : a.eval k' = kval xs := rep_kval r2
  refine ⟨fun _ _ => trivial, ?_⟩
  show o.uponIn (Fr ρ) fu E.P a K Q ((o.semAt ρ a.eval).run E.P w)
  rw [hsem (by simp [ho])]
  have hex : (execOp a.eval o).run E.P w = .ok (.value (.int .i64 (kvget kv xs))) w := by
   simp [execOp, ho, e1, e2, look_run hK1 hb hmi hxl hxr]
  rw [hex]
  simp only [Oper.uponIn]
  rw [hod]
  exact hK _ _ _ ⟨C, m, tk, own, h.put hd (av := .int (kvget kv xs)) (Rep0.int _)⟩ hn
 | call f xs =>
  have h1 : mop E.P o.op (.call f xs) = false := by cases o.op <;> first | rfl | (rename_i u _ _; cases u <;> rfl)
  have h2 : mop2 E.P o.op (.call f xs) = false := by cases o.op <;> rfl
  simp only [mopA, h1, h2, Bool.false_or] at hm
  cases ho : o.op <;> rw [ho] at hm <;> first | (simp [mcall] at hm; done) | skip
  rename_i c
  obtain ⟨callee, args, argTypes⟩ := c
  simp only [mcall, Bool.and_eq_true] at hm
  obtain ⟨hm1, hm2⟩ := hm
  split at hm1 <;> first | (simp at hm1; done) | skip
  rename_i g
  have hgf : g = f := by simpa using hm1
  subst hgf
  obtain ⟨hu, r, hctr, hn⟩ := hw
  obtain ⟨C', own', h', hC⟩ := h.frzL (bids (evs σ xs))
  have hr := args_rep' h h' hC hm2 (noUnd_mem hu)
  refine call_wp h' hr hctr ?_ hd hod fun a' w' hR => hK _ a' w' hR hn
  intro fn hf hname hbody
  obtain ⟨args⟩ := args
  have hn' : ¬ fn.name = "runtime.NumGoroutine" := by simpa using hname
  have hb' : ¬ fn.body = none := by intro e; rw [e] at hbody; simp at hbody
  rw [hsem (by simp [ho])]
  simp [execOp, ho, resolve, Act.eval, Deferred.ofValue, invoke, callFunc, hf, hn', hb']
 | callb f xs avs =>
  have h1 : mop E.P o.op (.callb f xs avs) = false := by cases o.op <;> first | rfl | (rename_i u _ _; cases u <;> rfl)
  have h2 : mop2 E.P o.op (.callb f xs avs) = false := by cases o.op <;> rfl
  simp only [mopA, h1, h2, Bool.false_or] at hm
  cases ho : o.op <;> rw [ho] at hm <;> first | (simp [mcall] at hm; done) | skip
  rename_i c
  obtain ⟨callee, args, argTypes⟩ := c
  simp only [mcall, Bool.and_eq_true] at hm
  obtain ⟨hm1, hm2⟩ := hm
  split at hm1 <;> first | (simp at hm1; done) | skip
  rename_i g
  have hgf : g = f := by simpa using hm1
  subst hgf
  obtain ⟨hu, r, hctr, hn⟩ := hw
  obtain ⟨C', own', h', hC⟩ := h.frzL (bids (evs σ xs))
  have hr := args_rep' h h' hC hm2 (noUnd_mem hu)
  refine callb_wp h h'.gfw hr hctr ?_ hd hod fun a' w' hR => hK _ a' w' hR hn
  intro fn hf hname hbody
  obtain ⟨args⟩ := args
  have hn' : ¬ fn.name = "runtime.NumGoroutine" := by simpa using hname
  have hb' : ¬ fn.body = none := by intro e; rw [e] at hbody; simp at hbody
  rw [hsem (by simp [ho])]
  simp [execOp, ho, resolve, Act.eval, Deferred.ofValue, invoke, callFunc, hf, hn', hb']
 | callL f xs bs =>
  have h1 : mop E.P o.op (.callL f xs bs) = false := by cases o.op <;> first | rfl | (rename_i u _ _; cases u <;> rfl)
  have h2 : mop2 E.P o.op (.callL f xs bs) = false := by cases o.op <;> rfl
  simp only [mopA, h1, h2, Bool.false_or] at hm
  cases ho : o.op <;> rw [ho] at hm <;> first | (simp [mcall] at hm; done) | skip
  rename_i c
  obtain ⟨callee, args, argTypes⟩ := c
  simp only [mcall, Bool.and_eq_true] at hm
  obtain ⟨hm1, hm2⟩ := hm
  split at hm1 <;> first | (simp at hm1; done) | skip
  rename_i g
  have hgf : g = f := by simpa using hm1
  subst hgf
  obtain ⟨hu, r, hctr, hn⟩ := hw
  obtain ⟨C', own', h', hC⟩ := h.frzL bs
  have hr := args_rep' h h' hC hm2 (noUnd_mem hu)
  refine callb_wp h h'.gfw hr hctr ?_ hd hod fun a' w' hR => hK _ a' w' hR hn
  intro fn hf hname hbody
  obtain ⟨args⟩ := args
  have hn' : ¬ fn.name = "runtime.NumGoroutine" := by simpa using hname
  have hb' : ¬ fn.body = none := by intro e; rw [e] at hbody; simp at hbody
  rw [hsem (by simp [ho])]
  simp [execOp, ho, resolve, Act.eval, Deferred.ofValue, invoke, callFunc, hf, hn', hb']
 | calls f b xs bs =>
  have h1 : mop E.P o.op (.calls f b xs bs) = false := by cases o.op <;> first | rfl | (rename_i u _ _; cases u <;> rfl)
  have h2 : mop2 E.P o.op (.calls f b xs bs) = false := by cases o.op <;> rfl
  simp only [mopA, h1, h2, Bool.false_or] at hm
  cases ho : o.op <;> rw [ho] at hm <;> first | (simp [mcall] at hm; done) | skip
  rename_i c
  obtain ⟨callee, args, argTypes⟩ := c
  simp only [mcall, Bool.and_eq_true] at hm
  obtain ⟨hm1, hm2⟩ := hm
  split at hm1 <;> first | (simp at hm1; done) | skip
  rename_i g
  have hgf : g = f := by simpa using hm1
  subst hgf
  obtain ⟨e1, e2, e3, r, hctr, hn⟩ := hw
  obtain ⟨args⟩ := args
  have hst : strips σ.hp (evs σ xs) = strips [] (evs σ xs) := strips_bids e1
  have hr := args_rep' h h (fun _ _ x => x) hm2 (by rw [hst]; exact noUnd_mem e2)
  rw [hst] at hr
  refine calls_wp h hr hctr (fun c hc => by
   obtain ⟨p, hp, rfl⟩ := gsB_mem hc
   exact e3 p hp) ?_ hd hod fun a' w' hR => hK _ a' w' hR hn
  intro fn hf hname hbody
  have hn' : ¬ fn.name = "runtime.NumGoroutine" := by simpa using hname
  have hb' : ¬ fn.body = none := by intro e; rw [e] at hbody; simp at hbody
  rw [hsem (by simp [ho])]
  simp [execOp, ho, resolve, Act.eval, Deferred.ofValue, invoke, callFunc, hf, hn', hb']
 | callt f i xs =>
  have h1 : mop E.P o.op (.callt f i xs) = false := by cases o.op <;> first | rfl | (rename_i u _ _; cases u <;> rfl)
  have h2 : mop2 E.P o.op (.callt f i xs) = false := by cases o.op <;> rfl
  simp only [mopA, h1, h2, Bool.false_or] at hm
  cases ho : o.op <;> rw [ho] at hm <;> first | (simp [mcall] at hm; done) | skip
  rename_i c
  obtain ⟨callee, args, argTypes⟩ := c
  simp only [mcall, Bool.and_eq_true] at hm
  obtain ⟨hm1, hm2⟩ := hm
  split at hm1 <;> first | (simp at hm1; done) | skip
  rename_i g
  have hgf : g = f := by simpa using hm1
  subst hgf
  obtain ⟨cs, rest, r, e1, e2, e3, e4, hctr, hn⟩ := hw
  obtain ⟨args⟩ := args
  simp only at hm2
  match xs, args, e1, hm2 with
  | [], _, e1, _ => simp [evs] at e1
  | x0 :: xr, [], _, hm2 => simp [opds] at hm2
  | x0 :: xr, y0 :: yr, e1, hm2 =>
   simp only [evs, List.cons.injEq] at e1
   obtain ⟨e1a, e1b⟩ := e1
   simp only [opds, Bool.and_eq_true] at hm2
   have r0 := opd_rep h hm2.1
   rw [e1a] at r0
   obtain ⟨a0, ha0, hsz, hcell⟩ := r0
   have hlt : i < cs.length := (List.getElem?_eq_some_iff.1 e4).1
   have hst : strips σ.hp (evs σ xr) = strips [] rest := by rw [e1b]; exact strips_bids e2
   have hr := args_rep' h h (fun _ _ x => x) hm2.2 (by rw [hst]; exact noUnd_mem e3)
   rw [hst] at hr
   refine callt_wp h hsz (fun j hj => (hcell j cs[j] (by simp [hj])).2.1) hr (hcell i r e4).2.2 hctr ?_ hd hod fun a' w' hR => hK _ a' w' hR hn
   intro fn hf hname hbody
   have hn' : ¬ fn.name = "runtime.NumGoroutine" := by simpa using hname
   have hb' : ¬ fn.body = none := by intro e; rw [e] at hbody; simp at hbody
   rw [hsem (by simp [ho])]
   simp [execOp, ho, resolve, Act.eval, Deferred.ofValue, invoke, callFunc, hf, hn', hb', ha0]
   simpa [Act.eval] using ha0
 | calli f xs =>
  have h1 : mop E.P o.op (.calli f xs) = false := by cases o.op <;> first | rfl | (rename_i u _ _; cases u <;> rfl)
  have h2 : mop2 E.P o.op (.calli f xs) = false := by cases o.op <;> rfl
  simp only [mopA, h1, h2, Bool.false_or] at hm
  cases ho : o.op <;> rw [ho] at hm <;> first | (simp [mcall] at hm; done) | skip
  rename_i c
  obtain ⟨callee, args, argTypes⟩ := c
  simp only [mcall, Bool.and_eq_true] at hm
  obtain ⟨hm1, hm2⟩ := hm
  split at hm1 <;> first | (simp at hm1; done) | skip
  rename_i g
  have hgf : g = f := by simpa using hm1
  subst hgf
  obtain ⟨e1, e2⟩ := args_own h hm2
  refine csem_wp hX hY h e1 e2 hw ?_ hd hod hK
  intro fn hf hname hbody
  obtain ⟨args⟩ := args
  have hn' : ¬ fn.name = "runtime.NumGoroutine" := by simpa using hname
  have hb' : ¬ fn.body = none := by intro e; rw [e] at hbody; simp at hbody
  rw [hsem (by simp [ho])]
  simp [execOp, ho, resolve, Act.eval, Deferred.ofValue, invoke, callFunc, hf, hn', hb']
 | callw x xs =>
  have h1 : mop E.P o.op (.callw x xs) = false := by cases o.op <;> first | rfl | (rename_i u _ _; cases u <;> rfl)
  have h2 : mop2 E.P o.op (.callw x xs) = false := by cases o.op <;> rfl
  simp only [mopA, h1, h2, Bool.false_or] at hm
  cases ho : o.op <;> rw [ho] at hm <;> first | (simp [mcall] at hm; done) | skip
  rename_i c
  obtain ⟨callee, args, argTypes⟩ := c
  simp only [mcall, Bool.and_eq_true] at hm
  obtain ⟨hm1, hm2⟩ := hm
  split at hm1 <;> first | (simp at hm1; done) | skip
  rename_i g
  obtain ⟨e1, e2⟩ := args_own h hm2
  have rg := opd_rep h hm1
  have key : ∀ {f : FuncId} {vf vc : Array Value} {first caps : List AV}, a.eval g = .func (.func f) vf vc → vf.size = first.length → vc.size = caps.length →
    (∀ (j : Nat) (c : AV), first[j]? = some c → Rep C w m tk (vf[j]?.getD undef) c) → (∀ (j : Nat) (c : AV), caps[j]? = some c → Rep C w m tk (vc[j]?.getD undef) c) →
    (CSem { E with X := σ.fr :: E.X, rd := false } f (first ++ evs σ xs ++ caps) σ.hp σ.tk σ.pd fun r hp' tk' pd' => next (put d r ⟨σ.fr, hp', tk', pd'⟩)) → o.wpIn (Fr ρ) fu E.P a w K Q := by
   intro f vf vc first caps hg hvf hvc q1 q2 hcs
   have hsz : (vf ++ (args.toList.map a.eval).toArray ++ vc).size = (first ++ evs σ xs ++ caps).length := by
    simp only [Array.size_append, List.length_append, hvf, e1, hvc]
   refine csem_wp hX hY h hsz (fun t => ?_) hcs ?_ hd hod hK
   ·rcases Nat.lt_or_ge t first.length with hl | hl
    ·rw [List.append_assoc, List.getElem?_append_left hl, Array.append_assoc, Array.getElem?_append_left (by omega)]
     have : first[t]? = some first[t] := by simp [hl]
     rw [this]
     exact q1 t _ this
    ·rw [List.append_assoc, List.getElem?_append_right hl, Array.append_assoc, Array.getElem?_append_right (by omega), hvf]
     rcases Nat.lt_or_ge (t - first.length) (evs σ xs).length with hl2 | hl2
     ·rw [List.getElem?_append_left hl2, Array.getElem?_append_left (by rw [e1]; omega)]
      exact e2 _
     ·rw [List.getElem?_append_right hl2, Array.getElem?_append_right (by rw [e1]; omega), e1]
      cases hj : caps[t - first.length - (evs σ xs).length]? with
      | none => exact trivial
      | some c => exact q2 _ c hj
   ·intro fn hf' hname hbody
    obtain ⟨args⟩ := args
    have hn' : ¬ fn.name = "runtime.NumGoroutine" := by simpa using hname
    have hb' : ¬ fn.body = none := by intro e; rw [e] at hbody; simp at hbody
    rw [hsem (by simp [ho])]
    simp [execOp, ho, resolve, hg, Deferred.ofValue, invoke, callFunc, hf', hn', hb']
  simp only [W1] at hw
  split at hw <;> first | exact hw.elim | skip
  ·rename_i f first caps hev
   rw [hev] at rg
   obtain ⟨vf, vc, hg, hvf, hvc, q1, q2⟩ := rg
   exact key hg hvf hvc (fun j c hj => rep_of_rep1 (q1 j c hj).2 (q1 j c hj).1) (fun j c hj => rep_of_rep1 (q2 j c hj).2 (q2 j c hj).1) hw
  ·rename_i f first caps hev
   rw [hev] at rg
   have rg' : Rep0 C w (a.eval g) (.clo f first caps) := rg
   cases hg : a.eval g <;> rw [hg] at rg' <;> first | (cases rg'; done) | skip
   rename_i fn0 vf vc
   cases rg' with
   | clo f vf vc first caps hf hcc q1 q2 => exact key hg hf hcc (fun j c hj => (q1 j c hj).toRep) (fun j c hj => (q2 j c hj).toRep) hw
 | yield x xs =>
  have h1 : mop E.P o.op (.yield x xs) = false := by cases o.op <;> first | rfl | (rename_i u _ _; cases u <;> rfl)
  have h2 : mop2 E.P o.op (.yield x xs) = false := by cases o.op <;> rfl
  simp only [mopA, h1, h2, Bool.false_or] at hm
  cases ho : o.op <;> rw [ho] at hm <;> first | (simp [mcall] at hm; done) | skip
  rename_i c
  obtain ⟨callee, args, argTypes⟩ := c
  simp only [mcall, Bool.and_eq_true] at hm
  obtain ⟨hm1, hm2⟩ := hm
  split at hm1 <;> first | (simp at hm1; done) | skip
  rename_i g
  obtain ⟨e1, e2⟩ := args_own h hm2
  have rg := opd_rep h hm1
  simp only [W1] at hw
  split at hw <;> first | exact hw.elim | skip
  rename_i l hev
  obtain ⟨hrd, T, hT, hpd, hw⟩ := hw
  obtain rfl := hρ hrd
  rw [hev] at rg
  have rg' : Rep0 C w (a.eval g) (.yld l) := rg
  have hg : a.eval g = .func (.yield l) #[] #[] := by
   revert rg'
   generalize a.eval g = u
   intro rg'
   cases rg'
   rfl
  refine yield_wp hX hY h hT hpd e1 e2 hw ?_ hd hod hK
  obtain ⟨args⟩ := args
  simp [execOp, ho, resolve, hg, Deferred.ofValue, invoke, callFunc]
 | callv x xs =>
  have h1 : mop E.P o.op (.callv x xs) = false := by cases o.op <;> first | rfl | (rename_i u _ _; cases u <;> rfl)
  have h2 : mop2 E.P o.op (.callv x xs) = false := by cases o.op <;> rfl
  simp only [mopA, h1, h2, Bool.false_or] at hm
  cases ho : o.op <;> rw [ho] at hm <;> first | (simp [mcall] at hm; done) | skip
  rename_i c
  obtain ⟨callee, args, argTypes⟩ := c
  simp only [mcall, Bool.and_eq_true] at hm
  obtain ⟨hm1, hm2⟩ := hm
  split at hm1 <;> first | (simp at hm1; done) | skip
  rename_i g
  obtain ⟨hu, hw⟩ := hw
  obtain ⟨C', own', h', hC⟩ := h.frzL (bids (evs σ xs))
  have hr := args_rep' h h' hC hm2 (noUnd_mem hu)
  have rg := (opd_rep h hm1).mono hC (Same.refl C w)
  unfold WCallv at hw
  split at hw <;> first | exact hw.elim | skip
  rename_i f first caps hev
  rw [hev] at rg
  have rg' : Rep0 C' w (a.eval g) (.clo f first caps) := rg
  cases hg : a.eval g <;> rw [hg] at rg' <;> first | (cases rg'; done) | skip
  rename_i fn0 vf vc
  cases rg' with
  | clo f vf vc first caps hf hcc q1 q2 =>
   obtain ⟨r, hctr, hn⟩ := hw
   have hr2 : Reps0 C' w (vf ++ (args.toList.map a.eval).toArray ++ vc) (first ++ strips (frzS (bids (evs σ xs)) σ).hp (evs σ xs) ++ caps) := by
    refine ⟨by simp only [Array.size_append, List.length_append, hf, hr.1, hcc], fun j c hj => ?_⟩
    simp only [List.append_assoc] at hj
    rcases Nat.lt_or_ge j first.length with hl | hl
    ·rw [List.getElem?_append_left hl] at hj
     rw [Array.append_assoc, Array.getElem?_append_left (by omega)]
     exact q1 j c hj
    ·rw [List.getElem?_append_right hl] at hj
     rcases Nat.lt_or_ge (j - first.length) (strips (frzS (bids (evs σ xs)) σ).hp (evs σ xs)).length with hl2 | hl2
     ·rw [List.getElem?_append_left hl2] at hj
      rw [Array.append_assoc, Array.getElem?_append_right (by omega), Array.getElem?_append_left (by rw [hr.1]; omega), hf]
      exact hr.2 _ c hj
     ·rw [List.getElem?_append_right hl2] at hj
      rw [Array.append_assoc, Array.getElem?_append_right (by omega), Array.getElem?_append_right (by rw [hr.1]; omega), hf, hr.1]
      exact q2 _ c hj
   refine call_wp h' hr2 hctr ?_ hd hod fun a' w' hR => hK _ a' w' hR hn
   intro fn hf' hname hbody
   obtain ⟨args⟩ := args
   have hn' : ¬ fn.name = "runtime.NumGoroutine" := by simpa using hname
   have hb' : ¬ fn.body = none := by intro e; rw [e] at hbody; simp at hbody
   rw [hsem (by simp [ho])]
   simp [execOp, ho, resolve, hg, Deferred.ofValue, invoke, callFunc, hf', hn', hb']
 | _ => exact main hw.1 hw.2
end frames
theorem wanted_gst {σ : AS} {a : Act} {w : World} {ops : Array Oper} {o : Oper} {v : VOper} {b : Bool} (h : R N C0 w0 σ a w) (hg : guardOK ops o v = true) (hs : gst v σ = some b) : Region.wanted o (yielded ops a.tmps) = b := by
 obtain ⟨C, m, tk, own, h⟩ := h
 unfold guardOK at hg
 unfold gst at hs
 unfold Region.wanted
 cases hog : o.guard with
 | none =>
  cases hvg : v.g with
  | none => simp [hvg] at hs; simpa using hs
  | some p => simp [hog, hvg] at hg
 | some jw =>
  obtain ⟨j, want⟩ := jw
  cases hvg : v.g with
  | none => simp [hog, hvg] at hg
  | some tw =>
   obtain ⟨t, want'⟩ := tw
   simp only [hog, hvg, Bool.and_eq_true, beq_iff_eq] at hg hs
   obtain ⟨rfl, hg⟩ := hg
   split at hg <;> first | (simp at hg; done) | skip
   rename_i g hgj
   have hgd : g.dst = some t := by simpa using hg
   have hsl := h.slots t
   have hy0 : ((ops[j]?).bind (·.dst)).bind (a.tmps[·]?) = a.tmps[t]? := by simp [hgj, hgd]
   simp only [yielded, hy0]
   split at hs <;> first | (simp at hs; done) | skip
   ·rename_i b' hb'
    rw [hb'] at hsl
    have he := rep_bool hsl
    cases ht : a.tmps[t]? with
    | none => rw [ht] at he; cases he
    | some u =>
     rw [ht] at he
     simp only [Option.getD_some] at he
     subst he
     simp only [Option.some.injEq] at hs
     rw [← hs]
     cases b' <;> cases want <;> rfl
   ·rename_i hb'
    rw [hb'] at hsl
    have hsl' : Rep0 C w (a.tmps[t]?.getD undef) .nul := hsl
    cases ht : a.tmps[t]? with
    | none => simp only [Option.some.injEq] at hs; rw [← hs]; rfl
    | some u =>
     rw [ht] at hsl'
     simp only [Option.getD_some] at hsl'
     have hu : u = undef := by
      revert hsl'
      generalize hnul : AV.nul = z
      intro hsl'
      cases hsl' <;> first | rfl | (cases hnul)
     subst hu
     simp only [Option.some.injEq] at hs
     rw [← hs]
     rfl
theorem nul_put {σ : AS} {a : Act} {w : World} (h : R N C0 w0 σ a w) {d : Option Nat} (hd : ∀ t, d = some t → t < N.n) : R N C0 w0 (put d .nul σ) (a.put d undef) w := by
 obtain ⟨C, m, tk, own, h⟩ := h
 exact ⟨C, m, tk, own, h.put hd (Rep0.nul)⟩
theorem moper_spec {n : Nat} {ops : Array Oper} {o : Oper} {v : VOper} (h : moper P n ops o v = true) : o.dst = v.d ∧ (∀ t, v.d = some t → t < n) ∧ guardOK ops o v = true ∧ mopA P o.op v.op = true := by
 simp only [moper, Bool.and_eq_true, beq_iff_eq] at h
 obtain ⟨⟨⟨h1, h2⟩, h3⟩, h4⟩ := h
 refine ⟨h1, fun t ht => ?_, h3, h4⟩
 rw [ht] at h2
 simpa using h2
def mopers (P : Program) (N : Nat) (ops : Array Oper) : List Oper → List VOper → Bool
 | [], [] => true
 | o :: os, v :: vs => moper P N ops o v && mopers P N ops os vs
 | _, _ => false
section frames
variable {E : Env} {n : Nat} {X : List (Array Value × List (Nat × AV))} {KK : List (Nat × Obj)} {L : Option (Nat × (Option Ex → Obj))}
theorem wops_list {ρ : Option Nat} {fu : Nat} (hX : X.map (·.2) = E.X) (hY : YSnd E.P E.T C0 w0 X KK L) (hρ : E.rd = false → ρ = none)
  {ops : Array Oper} {Q : Exit → Act → World → Prop} {K : AS → Prop} (hK : ∀ σ a w, R ⟨n, X, KK, L⟩ C0 w0 σ a w → K σ → Q .normal a w) :
  ∀ (os : List Oper) (vs : List VOper) (σ : AS) (a : Act) (w : World), mopers E.P n ops os vs = true → R ⟨n, X, KK, L⟩ C0 w0 σ a w → WOps E false vs K σ → wpListIn (Fr ρ) fu E.P ops Q os a w
 | [], [], σ, a, w, _, hr, hw => hK σ a w hr hw
 | [], _ :: _, _, _, _, hm, _, _ => by simp [mopers] at hm
 | _ :: _, [], _, _, _, hm, _, _ => by simp [mopers] at hm
 | o :: os, v :: vs, σ, a, w, hm, hr, hw => by
  simp only [mopers, Bool.and_eq_true] at hm
  obtain ⟨m1, m2, m3, m4⟩ := moper_spec hm.1
  simp only [WOps] at hw
  have ih := fun σ a w => wops_list hX hY hρ (fu := fu) hK os vs σ a w hm.2
  unfold wpListIn
  have run : Region.wanted o (yielded ops a.tmps) = true → W1 E v.d v.op (WOps E false vs K) σ → (if Region.wanted o (yielded ops a.tmps) = true then o.wpIn (Fr ρ) fu E.P a w (wpListIn (Fr ρ) fu E.P ops Q os) Q else (∀ f, o.about E.P w a.eval = some f → (Fr ρ).fn f) ∧ wpListIn (Fr ρ) fu E.P ops Q os (a.put o.dst undef) w) := by
   intro hwant h1
   rw [if_pos hwant]
   exact w1_wp hX hY hρ hr m4 m2 m1 h1 fun σ' a' w' hr' hn => ih σ' a' w' hr' hn
  have skip : Region.wanted o (yielded ops a.tmps) = false → WOps E false vs K (put v.d .nul σ) → (if Region.wanted o (yielded ops a.tmps) = true then o.wpIn (Fr ρ) fu E.P a w (wpListIn (Fr ρ) fu E.P ops Q os) Q else (∀ f, o.about E.P w a.eval = some f → (Fr ρ).fn f) ∧ wpListIn (Fr ρ) fu E.P ops Q os (a.put o.dst undef) w) := by
   intro hwant h1
   rw [if_neg (by rw [hwant]; simp), m1]
   exact ⟨fun _ _ => trivial, ih _ _ _ (nul_put hr m2) h1⟩
  unfold WOp at hw
  cases hg : v.g with
  | none =>
   simp only [hg, WD] at hw
   exact run (wanted_gst hr m3 (by simp [gst, hg])) hw
  | some p =>
   obtain ⟨t, want⟩ := p
   simp only [hg, WGd] at hw
   cases hv : get σ.fr t <;> simp only [hv] at hw <;> first | exact hw.elim | skip
   ·exact skip (wanted_gst hr m3 (by simp [gst, hg, hv])) hw
   ·rename_i b
    cases hb : (b == want) with
    | true =>
     simp only [hb, WD] at hw
     exact run (wanted_gst hr m3 (by simp [gst, hg, hv, hb])) hw
    | false =>
     simp only [hb] at hw
     exact skip (wanted_gst hr m3 (by simp [gst, hg, hv, hb])) hw
end frames
end
end Go.V

set_option linter.unusedSimpArgs false
set_option linter.unusedVariables false
set_option linter.unnecessarySimpa false
namespace Go.V
open Go Go.RowKit
def direct (o : Oper) : List Nat := (o.after.toList.filter (Region.binds .any ·)).map (·.on)
def bmask (acc : List Nat) (l : List Nat) : Nat := l.foldl (fun s j => s ||| 2 ^ j ||| acc.getD j 0) 0
def befN : List Oper → List Nat → List Nat
 | [], acc => acc
 | o :: r, acc => befN r (acc ++ [bmask acc (direct o)])
theorem bmask_spec (acc : List Nat) (l : List Nat) (s : Nat) (j : Nat) (h : (l.foldl (fun s j => s ||| 2 ^ j ||| acc.getD j 0) s).testBit j = true) :
  s.testBit j = true ∨ ∃ d ∈ l, d = j ∨ (acc.getD d 0).testBit j = true := by
 induction l generalizing s with
 | nil => exact .inl h
 | cons d r ih =>
  simp only [List.foldl_cons] at h
  rcases ih _ h with h1 | ⟨d', h1, h2⟩
  ·simp only [Nat.testBit_or, Bool.or_eq_true, Nat.testBit_two_pow] at h1
   rcases h1 with (h1 | h1) | h1
   ·exact .inl h1
   ·exact .inr ⟨d, by simp, .inl (by simpa using h1)⟩
   ·exact .inr ⟨d, by simp, .inr h1⟩
  ·exact .inr ⟨d', by simp [h1], h2⟩
theorem befN_spec (all : List Oper) (S : Nat → Prop) (hS : ∀ (i : Nat) (o : Oper), all[i]? = some o → S i → ∀ d ∈ direct o, S d) : ∀ (os : List Oper) (acc : List Nat),
  (∀ (i : Nat) (o : Oper), os[i]? = some o → all[acc.length + i]? = some o) →
  (∀ (k : Nat) (x : Nat), acc[k]? = some x → ∀ o, all[k]? = some o → (∀ d ∈ direct o, S d) → ∀ j, x.testBit j = true → S j) →
  ∀ (k : Nat) (x : Nat), (befN os acc)[k]? = some x → ∀ o, all[k]? = some o → (∀ d ∈ direct o, S d) → ∀ j, x.testBit j = true → S j
 | [], acc, _, hacc => hacc
 | o :: os, acc, hos, hacc => by
  refine befN_spec all S hS os (acc ++ [bmask acc (direct o)]) (fun i u hu => ?_) (fun k x hx u hu hd j hj => ?_)
  ·have := hos (i + 1) u (by simpa using hu)
   simp only [List.length_append, List.length_cons, List.length_nil]
   rw [show acc.length + (0 + 1) + i = acc.length + (i + 1) by omega]
   exact this
  ·rcases Nat.lt_or_ge k acc.length with hl | hl
   ·rw [List.getElem?_append_left hl] at hx
    exact hacc k x hx u hu hd j hj
   ·rw [List.getElem?_append_right hl] at hx
    have hk : k = acc.length := by
     have := (List.getElem?_eq_some_iff.1 hx).1
     simp at this
     omega
    subst hk
    simp at hx
    subst hx
    have h0 := hos 0 o (by simp)
    rw [Nat.add_zero, hu] at h0
    injection h0 with h0
    subst h0
    rcases bmask_spec _ _ _ _ hj with h1 | ⟨d, h1, h2⟩
    ·simp at h1
    ·have hSd := hd d h1
     rcases h2 with rfl | h2
     ·exact hSd
     ·rcases Nat.lt_or_ge d acc.length with hl2 | hl2
      ·have hdx : acc[d]? = some acc[d] := by simp [hl2]
       rw [List.getD_eq_getElem?_getD, hdx] at h2
       simp only [Option.getD_some] at h2
       cases had : all[d]? with
       | none =>
        exfalso
        have hlen : acc.length < all.length := (List.getElem?_eq_some_iff.1 hu).1
        rw [List.getElem?_eq_none_iff] at had
        omega
       | some od => exact hacc d _ hdx od had (hS d od had hSd) j h2
      ·rw [List.getD_eq_getElem?_getD, List.getElem?_eq_none hl2] at h2
       simp at h2
def orderOK (os : List Oper) (vs : List VOper) : Bool :=
 let b := befN os []
 (os.zipIdx.all fun (o, i) => (direct o).all fun d => decide (d < i)) &&
 (List.range vs.length).all fun i => (List.range i).all fun j =>
  match vs[j]?, vs[i]? with
  | some x, some y => indep x y || (b.getD i 0).testBit j
  | _, _ => true
section
variable {E : Env} {n : Nat} {X : List (Array Value × List (Nat × AV))} {KK : List (Nat × Obj)} {L : Option (Nat × (Option Ex → Obj))}
variable {C0 : Nat → Nat → Prop} {w0 : World}
theorem runs_of_wops {K : AS → Prop} : ∀ (vs : List VOper) (σ : AS), WOps E true vs K σ → ∃ σf, Runs E.P vs σ σf ∧ K σf
 | [], σ, h => ⟨σ, rfl, h⟩
 | v :: vs, σ, h => by
  simp only [WOps] at h
  have run : gst v σ = some true → WD E true v.d v.op (WOps E true vs K) σ → ∃ σf, Runs E.P (v :: vs) σ σf ∧ K σf := by
   intro hg hw
   obtain ⟨hd, hw⟩ := hw
   have main : ∀ (hc : vcond v.op σ) (hy : Yld E.P v.op σ (vval v.op σ)), WOps E true vs K (put v.d (vval v.op σ) (vnext v.op σ)) → ∃ σf, Runs E.P (v :: vs) σ σf ∧ K σf := by
    intro hc hy hn
    rw [vnext_eff hd] at hn
    obtain ⟨σf, h1, h2⟩ := runs_of_wops vs _ hn
    exact ⟨σf, ⟨_, _, .inr ⟨hg, hy, rfl⟩, h1⟩, h2⟩
   cases hop : v.op with
   | call f xs =>
    rw [hop] at hd hw
    simp only [dcond] at hd
    simp only [W1, hd, frzL, frzS_nil] at hw
    obtain ⟨hu, r, hctr, hn⟩ := hw
    rw [strips_bids (hp := []) hd] at hctr hu
    obtain ⟨σf, h1, h2⟩ := runs_of_wops vs _ hn
    refine ⟨σf, ⟨r, .none, .inr ⟨hg, ?_, by rw [hop]; rfl⟩, h1⟩, h2⟩
    rw [hop]
    exact ⟨hd, hu, hctr⟩
   | callv x xs =>
    rw [hop] at hd hw
    simp only [dcond] at hd
    simp only [W1, hd, frzL, frzS_nil] at hw
    obtain ⟨hu, hw⟩ := hw
    unfold WCallv at hw
    split at hw <;> first | exact hw.elim | skip
    rename_i f first caps hev
    obtain ⟨r, hctr, hn⟩ := hw
    rw [strips_bids (hp := []) hd] at hctr hu
    obtain ⟨σf, h1, h2⟩ := runs_of_wops vs _ hn
    refine ⟨σf, ⟨r, .none, .inr ⟨hg, ?_, by rw [hop]; rfl⟩, h1⟩, h2⟩
    rw [hop]
    exact ⟨hd, hu, f, first, caps, hev, hctr⟩
   | mkw f caps => rw [hop] at hd; exact hd.elim
   | calli f xs => rw [hop] at hd; exact hd.elim
   | callL f xs bs => rw [hop] at hd; exact hd.elim
   | callb f xs avs =>
    rw [hop] at hd hw
    simp only [W1] at hw
    obtain ⟨hu, r, hctr, hn⟩ := hw
    obtain ⟨σf, h1, h2⟩ := runs_of_wops vs _ hn
    refine ⟨σf, ⟨r, .none, .inr ⟨hg, ?_, by rw [hop]; rfl⟩, h1⟩, h2⟩
    rw [hop]
    exact ⟨hd, hu, hctr⟩
   | calls f b xs bs =>
    rw [hop] at hw
    obtain ⟨e1, e2, e3, r, e4, hn⟩ := hw
    obtain ⟨σf, h1, h2⟩ := runs_of_wops vs _ hn
    refine ⟨σf, ⟨r, .gs b bs, .inr ⟨hg, ?_, by rw [hop]; rfl⟩, h1⟩, h2⟩
    rw [hop]
    exact ⟨e1, e2, e4, e3⟩
   | callt f i xs =>
    rw [hop] at hw
    obtain ⟨cs, rest, r, e1, e2, e3, e4, e5, hn⟩ := hw
    obtain ⟨σf, h1, h2⟩ := runs_of_wops vs _ hn
    refine ⟨σf, ⟨r, .none, .inr ⟨hg, ?_, by rw [hop]; rfl⟩, h1⟩, h2⟩
    rw [hop]
    exact ⟨cs, rest, e1, e2, e3, e4, e5⟩
   | mkm f xs => rw [hop] at hd; exact hd.elim
   | mmake t n => rw [hop] at hd; exact hd.elim
   | mlook t x k => rw [hop] at hd; exact hd.elim
   | callw x xs => rw [hop] at hd; exact hd.elim
   | yield x xs => rw [hop] at hd; exact hd.elim
   | _ =>
    rw [hop] at hw hd main
    exact main hw.1 ⟨hw.1, hd, rfl⟩ hw.2
  unfold WOp at h
  cases hg : v.g with
  | none =>
   simp only [hg] at h
   exact run (by simp [gst, hg]) h
  | some p =>
   obtain ⟨t, want⟩ := p
   simp only [hg, WGd] at h
   have skip : gst v σ = some false → WOps E true vs K (put v.d .nul σ) → ∃ σf, Runs E.P (v :: vs) σ σf ∧ K σf := by
    intro hgs hw
    obtain ⟨σf, h1, h2⟩ := runs_of_wops vs _ hw
    exact ⟨σf, ⟨.nul, .none, .inl ⟨hgs, rfl, rfl⟩, h1⟩, h2⟩
   cases hv : get σ.fr t <;> simp only [hv] at h <;> first | exact h.elim | skip
   ·exact skip (by simp [gst, hg, hv]) h
   ·rename_i b
    cases hb : (b == want) with
    | true => simp only [hb] at h; exact run (by simp [gst, hg, hv, hb]) h
    | false => simp only [hb] at h; exact skip (by simp [gst, hg, hv, hb]) h
theorem stepV_wp {ρ : Option Nat} {fu : Nat} (hX : X.map (·.2) = E.X) (hY : YSnd E.P E.T C0 w0 X KK L) (hρ : E.rd = false → ρ = none) {ops : Array Oper} {Q : Exit → Act → World → Prop} {K : Act → World → Prop} {σ : AS} {a : Act} {w : World} {i : Nat} {o : Oper} {v : VOper} {r : AV} {e : Ef} (hr : R ⟨n, X, KK, L⟩ C0 w0 σ a w)
  (ho : ops[i]? = some o) (hm : moper E.P n ops o v = true) (hs : StepV E.P v σ r e) (hK : ∀ a' w', R ⟨n, X, KK, L⟩ C0 w0 (put v.d r (apE e σ)) a' w' → K a' w') : wpOpIn (Fr ρ) fu E.P ops Q i K a w := by
 obtain ⟨m1, m2, m3, m4⟩ := moper_spec hm
 unfold wpOpIn
 rw [ho]
 simp only
 rcases hs with ⟨hg, rfl, rfl⟩ | ⟨hg, hy, rfl⟩
 ·rw [if_neg (by rw [wanted_gst hr m3 hg]; simp), m1]
  exact ⟨fun _ _ => trivial, hK _ _ (nul_put hr m2)⟩
 ·rw [if_pos (wanted_gst hr m3 hg)]
  refine w1_wp hX hY hρ hr m4 m2 m1 (next := fun τ => τ = put v.d r (apE (eff v.op σ) σ)) ?_ (fun σ' a' w' hr' hn => by subst hn; exact hK a' w' hr')
  cases hop : v.op with
  | call f xs =>
   rw [hop] at hy
   obtain ⟨h1, h2, h3⟩ := hy
   simp only [W1, h1, frzL, frzS_nil]
   rw [strips_bids (hp := []) h1]
   exact ⟨h2, r, h3, rfl⟩
  | callv x xs =>
   rw [hop] at hy
   obtain ⟨h1, h2, f, first, caps, h3, h4⟩ := hy
   simp only [W1, h1, frzL, frzS_nil]
   rw [strips_bids (hp := []) h1]
   refine ⟨h2, ?_⟩
   unfold WCallv
   rw [h3]
   exact ⟨r, h4, rfl⟩
  | mkw f caps => rw [hop] at hy; exact hy.2.1.elim
  | calli f xs => rw [hop] at hy; exact hy.1.elim
  | callL f xs bs => rw [hop] at hy; exact hy.1.elim
  | callb f xs avs =>
   rw [hop] at hy
   obtain ⟨h1, h2, h3⟩ := hy
   simp only [W1]
   exact ⟨h2, r, h3, rfl⟩
  | calls f b xs bs =>
   rw [hop] at hy
   obtain ⟨e1, e2, e3, e4⟩ := hy
   exact ⟨e1, e2, e4, r, e3, rfl⟩
  | callt f i xs =>
   rw [hop] at hy
   obtain ⟨cs, rest, e1, e2, e3, e4, e5⟩ := hy
   exact ⟨cs, rest, r, e1, e2, e3, e4, e5, rfl⟩
  | mkm f xs => rw [hop] at hy; exact hy.2.1.elim
  | mmake t n => rw [hop] at hy; exact hy.1.elim
  | mlook t x k => rw [hop] at hy; exact hy.1.elim
  | callw x xs => rw [hop] at hy; exact hy.1.elim
  | yield x xs => rw [hop] at hy; exact hy.1.elim
  | _ =>
   rw [hop] at hy
   obtain ⟨h1, h2, rfl⟩ := hy
   exact ⟨h1, by rw [vnext_eff h2]⟩
theorem mopers_get {ops : Array Oper} : ∀ (os : List Oper) (vs : List VOper), mopers E.P n ops os vs = true → os.length = vs.length ∧ ∀ (i : Nat) (o : Oper) (v : VOper), os[i]? = some o → vs[i]? = some v → moper E.P n ops o v = true
 | [], [], _ => ⟨rfl, fun i o v h => by simp at h⟩
 | [], _ :: _, h => by simp [mopers] at h
 | _ :: _, [], h => by simp [mopers] at h
 | x :: xs, y :: ys, h => by
  simp only [mopers, Bool.and_eq_true] at h
  obtain ⟨ih1, ih2⟩ := mopers_get xs ys h.2
  refine ⟨by simp [ih1], fun j u v hu hv => ?_⟩
  cases j with
  | zero => simp at hu hv; subst hu; subst hv; exact h.1
  | succ j => exact ih2 j u v (by simpa using hu) (by simpa using hv)
theorem split_mem : ∀ {l : List Nat} {i : Nat}, i ∈ l → ∃ r1 r2, l = r1 ++ i :: r2
 | x :: r, i, h => by
  cases List.mem_cons.1 h with
  | inl e => subst e; exact ⟨[], r, rfl⟩
  | inr e =>
   obtain ⟨r1, r2, h⟩ := split_mem e
   exact ⟨x :: r1, r2, by rw [h]; rfl⟩
theorem any_order {ρ : Option Nat} {fu : Nat} (hX : X.map (·.2) = E.X) (hY : YSnd E.P E.T C0 w0 X KK L) (hρ : E.rd = false → ρ = none) {ops : Array Oper} {vs : List VOper} {Q : Exit → Act → World → Prop} (hm : mopers E.P n ops ops.toList vs = true) (hord : orderOK ops.toList vs = true) {σf : AS}
  (hQ : ∀ τ a w, R ⟨n, X, KK, L⟩ C0 w0 τ a w → EqS τ σf → Q .normal a w) :
  ∀ (fuel : Nat) (rem : List Nat) (listed : Array Bool) (σ τf : AS) (a : Act) (w : World), rem.length = fuel → List.Pairwise (· < ·) rem → listed.size = ops.size →
   (∀ i, i < ops.size → (i ∈ rem ↔ listed.getD i true = false)) → (∀ i ∈ rem, i < ops.size) →
   (∀ (i : Nat) (o : Oper), ops[i]? = some o → listed.getD i true = true → ∀ d ∈ direct o, listed.getD d true = true) →
   R ⟨n, X, KK, L⟩ C0 w0 σ a w → Runs E.P (rem.map fun i => (vs[i]?).getD ⟨none, .mov (.t 0), none⟩) σ τf → EqS τf σf → wpAnyIn (Fr ρ) fu E.P .any ops Q fuel listed a w := by
 obtain ⟨hlen, hget⟩ := mopers_get _ _ hm
 simp only [orderOK, Bool.and_eq_true] at hord
 obtain ⟨hback, hpairs⟩ := hord
 have hback' : ∀ (i : Nat) (o : Oper), ops[i]? = some o → ∀ d ∈ direct o, d < i := by
  intro i o ho d hd
  have hmem : (o, i) ∈ ops.toList.zipIdx := by
   rw [List.mem_zipIdx_iff_getElem?]
   simpa using ho
  have := List.all_eq_true.1 hback _ hmem
  have := List.all_eq_true.1 this d hd
  simpa using this
 intro fuel
 induction fuel with
 | zero =>
  intro rem listed σ τf a w hl hp hsz hiff hlt hcl hr hrun heq
  have hrem : rem = [] := List.eq_nil_of_length_eq_zero hl
  subst hrem
  simp only [List.map_nil, Runs] at hrun
  subst hrun
  refine ⟨?_, hQ _ _ _ hr heq⟩
  unfold Region.ready
  rw [List.filter_eq_nil_iff]
  intro i hi
  have hi' : i < ops.size := by simpa using hi
  have := (hiff i hi').2
  cases hli : listed.getD i true with
  | true => simp
  | false => exact absurd (this hli) (by simp)
 | succ fuel ih =>
  intro rem listed σ τf a w hl hp hsz hiff hlt hcl hr hrun heq
  have hmemready : ∀ i, i ∈ Region.ready .any ops listed ↔ i ∈ rem ∧ ∃ o, ops[i]? = some o ∧ ∀ d ∈ direct o, listed.getD d false = true := by
   intro i
   unfold Region.ready
   rw [List.mem_filter, List.mem_range]
   constructor
   ·rintro ⟨hi, hc⟩
    simp only [Bool.and_eq_true, Bool.not_eq_true'] at hc
    obtain ⟨h1, h2⟩ := hc
    refine ⟨(hiff i hi).2 h1, ops[i], by simp [hi], fun d hd => ?_⟩
    simp only [hi, getElem?_pos, Option.map_some, Option.getD_some] at h2
    simp only [direct, List.mem_map, List.mem_filter] at hd
    obtain ⟨e, ⟨he1, he2⟩, rfl⟩ := hd
    have := Array.all_eq_true_iff_forall_mem.1 h2 e (by simpa using he1)
    simpa [he2] using this
   ·rintro ⟨hi, o, ho, hd⟩
    have hi' := hlt i hi
    refine ⟨hi', ?_⟩
    rw [(hiff i hi').1 hi, ho]
    simp only [Bool.not_false, Bool.true_and, Option.map_some, Option.getD_some]
    rw [Array.all_eq_true_iff_forall_mem]
    intro e he
    cases hb : Region.binds .any e with
    | false => rfl
    | true =>
     have := hd e.on (by
      simp only [direct, List.mem_map, List.mem_filter]
      exact ⟨e, ⟨by simpa using he, hb⟩, rfl⟩)
     simp only [this]
     rfl
  refine ⟨?_, ?_⟩
  ·-- somebody is ready
   intro hnone
   cases rem with
   | nil => simp at hl
   | cons i r =>
    exfalso
    have hi := hlt i (by simp)
    have : i ∈ Region.ready .any ops listed := by
     rw [hmemready]
     refine ⟨by simp, ops[i], by simp [hi], fun d hd => ?_⟩
     have hdi := hback' i ops[i] (by simp [hi]) d hd
     have hd' : d < ops.size := by omega
     have hnd : d ∉ i :: r := by
      intro hmem
      cases List.mem_cons.1 hmem with
      | inl e => omega
      | inr e => have := (List.pairwise_cons.1 hp).1 d e; omega
     have hld : listed.getD d true ≠ false := fun e => hnd ((hiff d hd').2 e)
     have hds : d < listed.size := by omega
     simp only [Array.getD, hds, dif_pos] at hld ⊢
     simpa using hld
    rw [hnone] at this
    simp at this
  ·intro i hi
   rw [hmemready] at hi
   obtain ⟨hirem, o, ho, hd⟩ := hi
   have hilt := hlt i hirem
   have hiv : i < vs.length := by rw [← hlen]; simpa using hilt
   obtain ⟨r1, r2, rfl⟩ := split_mem hirem
   simp only [List.map_append, List.map_cons] at hrun
   have hvi : vs[i]? = some vs[i] := by simp [hiv]
   rw [hvi] at hrun
   simp only [Option.getD_some] at hrun
   have hdt : ∀ d ∈ direct o, listed.getD d true = true := by
    intro d hdd
    have h1 := hd d hdd
    by_cases hds : d < listed.size
    ·simp only [Array.getD, hds, dif_pos] at h1 ⊢
     exact h1
    ·simp [Array.getD, hds]
   obtain ⟨v, e, h1, τf', h2, h3⟩ := pull hrun (by
    intro x hx
    obtain ⟨j, hj, rfl⟩ := List.mem_map.1 hx
    have hji : j < i := by
     have := List.pairwise_append.1 hp
     exact this.2.2 j hj i (by simp)
    have hjlt : j < ops.size := by omega
    have hjv : vs[j]? = some vs[j] := by have : j < vs.length := by omega
                                         simp [this]
    rw [hjv]
    simp only [Option.getD_some]
    have hp1 := List.all_eq_true.1 hpairs i (by simpa using hiv)
    have hp2 := List.all_eq_true.1 hp1 j (by simpa using hji)
    simp only [hjv, hvi, Bool.or_eq_true] at hp2
    rcases hp2 with hp2 | hp2
    ·exact hp2
    ·exfalso
     have hcl' := befN_spec ops.toList (fun d => listed.getD d true = true) (fun k u hu => hcl k u (by simpa using hu)) ops.toList [] (fun k u hu => by simpa using hu) (fun k x hx => by simp at hx)
     cases hb : (befN ops.toList [])[i]? with
     | none => rw [List.getD_eq_getElem?_getD, hb] at hp2; simp at hp2
     | some x =>
      rw [List.getD_eq_getElem?_getD, hb] at hp2
      have := hcl' i x hb o (by simpa using ho) hdt j hp2
      have h9 := (hiff j hjlt).1 (by simp [hj])
      rw [h9] at this
      simp at this)
   refine stepV_wp hX hY hρ hr ho (hget i o vs[i] (by simpa using ho) hvi) h1 ?_
   intro a' w' hr'
   have hp' : List.Pairwise (· < ·) (r1 ++ r2) := by
    have h9 := List.pairwise_append.1 hp
    exact List.pairwise_append.2 ⟨h9.1, (List.pairwise_cons.1 h9.2.1).2, fun x hx y hy => h9.2.2 x hx y (by simp [hy])⟩
   have hnotin : i ∉ r1 ++ r2 := by
    intro hmem
    have h9 := List.pairwise_append.1 hp
    rcases List.mem_append.1 hmem with hm1 | hm1
    ·have := h9.2.2 i hm1 i (by simp); omega
    ·have := (List.pairwise_cons.1 h9.2.1).1 i hm1; omega
   have hgd : ∀ k, (listed.setIfInBounds i true).getD k true = if k = i then true else listed.getD k true := by
    intro k
    rw [Array.getD_eq_getD_getElem?, Array.getD_eq_getD_getElem?]
    by_cases hk : k = i
    ·subst hk
     rw [if_pos rfl]
     by_cases hks : k < listed.size
     ·simp [hks]
     ·rw [Array.getElem?_eq_none (by simp; omega)]
      rfl
    ·rw [if_neg hk, Array.getElem?_setIfInBounds_ne (fun e => hk e.symm)]
   refine ih (r1 ++ r2) _ _ τf' a' w' (by simp at hl ⊢; omega) hp' (by simpa using hsz) ?_ (fun k hk => hlt k (by
    rcases List.mem_append.1 hk with hm1 | hm1
    ·simp [hm1]
    ·simp [hm1])) ?_ hr' (by simpa using h2) (h3.trans heq)
   ·intro k hk
    rw [hgd]
    by_cases hki : k = i
    ·subst hki
     simp only [if_true]
     exact ⟨fun hmem => absurd hmem hnotin, fun hf => by simp at hf⟩
    ·rw [if_neg hki, ← hiff k hk]
     simp [hki]
   ·intro k u hu hlk d hdd
    rw [hgd] at hlk ⊢
    by_cases hdi : d = i
    ·rw [if_pos hdi]
    ·rw [if_neg hdi]
     by_cases hki : k = i
     ·subst hki
      rw [ho] at hu
      injection hu with hu
      subst hu
      exact hdt d hdd
     ·rw [if_neg hki] at hlk
      exact hcl k u hu hlk d hdd
end
end Go.V

set_option linter.unusedSimpArgs false
set_option linter.unusedVariables false
set_option linter.unnecessarySimpa false
namespace Go.V
open Go Go.RowKit
theorem filter_lt {p q : Nat → Bool} (hpq : ∀ x, p x = true → q x = true) {i : Nat} (h1 : q i = true) (h2 : p i = false) : ∀ {l : List Nat}, i ∈ l → (l.filter p).length < (l.filter q).length
 | x :: r, h => by
  have hle : ∀ l : List Nat, (l.filter p).length ≤ (l.filter q).length := by
   intro l
   induction l with
   | nil => simp
   | cons y s ih =>
    simp only [List.filter_cons]
    cases hp : p y with
    | true => rw [hpq y hp]; simpa using ih
    | false => cases q y <;> simp <;> omega
  simp only [List.filter_cons]
  rcases List.mem_cons.1 h with e | h
  ·subst e
   rw [h1, h2]
   have := hle r
   simp
   omega
  ·have ih := filter_lt hpq h1 h2 h
   cases hp : p x with
   | true => rw [hpq x hp]; simpa using ih
   | false => cases q x <;> simp <;> omega
theorem any_inv {ρ : Option Nat} {fu : Nat} {P : Program} {ops : Array Oper} {Q : Exit → Act → World → Prop} (I : Array Bool → Act → World → Prop)
  (hdir : ∀ (i : Nat) (o : Oper), ops[i]? = some o → ∀ d ∈ direct o, d < i)
  (hstep : ∀ (S : Array Bool) (a : Act) (w : World) (i : Nat) (o : Oper) (K : Act → World → Prop), S.size = ops.size → I S a w → ops[i]? = some o → S.getD i true = false → (∀ d ∈ direct o, S.getD d false = true) →
   (∀ a' w', I (S.setIfInBounds i true) a' w' → K a' w') → wpOpIn (Fr ρ) fu P ops Q i K a w)
  (hend : ∀ (S : Array Bool) (a : Act) (w : World), S.size = ops.size → I S a w → (∀ i, i < ops.size → S.getD i true = true) → Q .normal a w) :
  ∀ (fuel : Nat) (S : Array Bool) (a : Act) (w : World), S.size = ops.size → ((List.range ops.size).filter fun i => !S.getD i true).length ≤ fuel → I S a w → wpAnyIn (Fr ρ) fu P .any ops Q fuel S a w := by
 have hready : ∀ (S : Array Bool), S.size = ops.size → ∀ i, i ∈ Region.ready .any ops S ↔ i < ops.size ∧ S.getD i true = false ∧ ∃ o, ops[i]? = some o ∧ ∀ d ∈ direct o, S.getD d false = true := by
  intro S hS i
  unfold Region.ready
  rw [List.mem_filter, List.mem_range]
  constructor
  ·rintro ⟨hi, hc⟩
   simp only [Bool.and_eq_true, Bool.not_eq_true'] at hc
   obtain ⟨h1, h2⟩ := hc
   refine ⟨hi, h1, ops[i], by simp [hi], fun d hd => ?_⟩
   simp only [hi, getElem?_pos, Option.map_some, Option.getD_some] at h2
   simp only [direct, List.mem_map, List.mem_filter] at hd
   obtain ⟨e, ⟨he1, he2⟩, rfl⟩ := hd
   have := Array.all_eq_true_iff_forall_mem.1 h2 e (by simpa using he1)
   simpa [he2] using this
  ·rintro ⟨hi, hf, o, ho, hd⟩
   refine ⟨hi, ?_⟩
   rw [hf, ho]
   simp only [Bool.not_false, Bool.true_and, Option.map_some, Option.getD_some]
   rw [Array.all_eq_true_iff_forall_mem]
   intro e he
   cases hb : Region.binds .any e with
   | false => rfl
   | true =>
    have := hd e.on (by
     simp only [direct, List.mem_map, List.mem_filter]
     exact ⟨e, ⟨by simpa using he, hb⟩, rfl⟩)
    simp only [this]
    rfl
 have hnone : ∀ (S : Array Bool), S.size = ops.size → Region.ready .any ops S = [] → ∀ i, i < ops.size → S.getD i true = true := by
  intro S hS hr i
  induction i using Nat.strongRecOn with
  | _ i ih =>
   intro hi
   cases hc : S.getD i true with
   | true => rfl
   | false =>
    exfalso
    have : i ∈ Region.ready .any ops S := by
     rw [hready S hS]
     refine ⟨hi, hc, ops[i], by simp [hi], fun d hd => ?_⟩
     have hlt := hdir i ops[i] (by simp [hi]) d hd
     have h1 := ih d hlt (by omega)
     have hds : d < S.size := by omega
     simp only [Array.getD, hds, dif_pos] at h1 ⊢
     exact h1
    rw [hr] at this
    simp at this
 intro fuel
 induction fuel with
 | zero =>
  intro S a w hS hc hI
  have hall : ∀ i, i < ops.size → S.getD i true = true := by
   intro i hi
   have h0 := List.eq_nil_of_length_eq_zero (Nat.le_zero.1 hc)
   rw [List.filter_eq_nil_iff] at h0
   have := h0 i (List.mem_range.2 hi)
   simpa using this
  refine ⟨?_, hend S a w hS hI hall⟩
  apply List.eq_nil_iff_forall_not_mem.2
  intro i hi
  obtain ⟨h1, h2, _⟩ := (hready S hS i).1 hi
  rw [hall i h1] at h2
  cases h2
 | succ fuel ih =>
  intro S a w hS hc hI
  refine ⟨fun hr => hend S a w hS hI (hnone S hS hr), fun i hi => ?_⟩
  obtain ⟨h1, h2, o, ho, hd⟩ := (hready S hS i).1 hi
  refine hstep S a w i o _ hS hI ho h2 hd fun a' w' hI' => ih _ a' w' (by simpa using hS) ?_ hI'
  have hgd : ∀ k, (S.setIfInBounds i true).getD k true = if k = i then true else S.getD k true := by
   intro k
   rw [Array.getD_eq_getD_getElem?, Array.getD_eq_getD_getElem?]
   by_cases hk : k = i
   ·subst hk
    rw [if_pos rfl]
    by_cases hks : k < S.size
    ·simp [hks]
    ·rw [Array.getElem?_eq_none (by simp; omega)]
     rfl
   ·rw [if_neg hk, Array.getElem?_setIfInBounds_ne (fun e => hk e.symm)]
  have := filter_lt (p := fun k => !(S.setIfInBounds i true).getD k true) (q := fun k => !S.getD k true) (i := i) (fun x hx => by
   rw [hgd] at hx
   by_cases e : x = i
   ·rw [if_pos e] at hx; simp at hx
   ·rw [if_neg e] at hx; exact hx) (by rw [h2]; rfl) (by rw [hgd, if_pos rfl]; rfl) (l := List.range ops.size) (List.mem_range.2 h1)
  omega
def isLd : VOp → Bool
 | .load _ _ _ _ | .mov _ => true
 | _ => false
def isLook (t : TypeId) (a b : Nat) : Op → Bool
 | .lookup t' (.tmp x) (.tmp y) ok => t' == t && x == a && y == b && !ok
 | _ => false
def isEntry (t : TypeId) (a b : Nat) : Op → Bool
 | .mapEntry t' (.tmp x) (.tmp y) => t' == t && x == a && y == b
 | _ => false
def isExt (a : Nat) : Op → Bool
 | .extract (.tmp x) i => x == a && i == 1
 | _ => false
def isEStore (t : TypeId) (a b c : Nat) : Op → Bool
 | .entryStore t' (.tmp x) (.tmp y) (.tmp z) => t' == t && x == a && y == b && z == c
 | _ => false
def bumpOK (P : Program) (N : Nat) (ops : Array Oper) (t : TypeId) (xm : VO) (k : VOp) (ds : List Nat) : Bool :=
 match ops.toList, ds with
 | [o0, o1, o2, o3, o4, o5, o6], [d0, d1, d2, d3, d4, d5] =>
  (ops.toList.all fun o => o.guard.isNone) && (ops.toList.zipIdx.all fun (o, i) => (direct o).all fun d => decide (d < i)) &&
  (ds.all fun d => decide (d < N)) && decide ds.Nodup && disj xm.sl ds && disj k.rd ds && isLd k &&
  (o0.dst == some d0 && o1.dst == some d1 && o2.dst == some d2 && o3.dst == some d3 && o4.dst == some d4 && o5.dst == some d5 && o6.dst == none) &&
  (mop P o0.op (.mov xm) && mopA P o1.op k && isLook t d0 d1 o2.op && mop P o3.op (.bin .add (.t d2) (.k (.int 1))) && isEntry t d0 d1 o4.op && isExt d4 o5.op && isEStore t d0 d5 d3 o6.op) &&
  ([0, 1].all (direct o2).contains && [2].all (direct o3).contains && [0, 1].all (direct o4).contains && [4].all (direct o5).contains && [0, 3, 5].all (direct o6).contains)
 | _, _ => false
theorem get_undL (ds : List Nat) (fr : FrL) (t : Nat) : get (undL ds fr) t = if t ∈ ds then .und else get fr t := by
 induction ds with
 | nil => simp [undL]
 | cons d r ih =>
  simp only [undL, get, ih]
  by_cases e : d = t
  ·subst e; simp
  ·rw [if_neg e]
   have : t ≠ d := fun h => e h.symm
   simp [this]
theorem wpOp_val {ρ : Option Nat} {fu : Nat} {P : Program} {ops : Array Oper} {Q : Exit → Act → World → Prop} {K : Act → World → Prop} {a : Act} {w w' : World} {i : Nat} {o : Oper} {v : Value} (ho : ops[i]? = some o) (hg : o.guard = none)
  (hd : ∀ c, o.op ≠ .defer c) (hex : Ex1 P o a w v w') (hK : K (a.put o.dst v) w') : wpOpIn (Fr ρ) fu P ops Q i K a w := by
 unfold wpOpIn
 rw [ho]
 simp only
 rw [if_pos (by simp [Region.wanted, hg])]
 refine ⟨fun _ _ => trivial, ?_⟩
 show o.uponIn (Fr ρ) fu P a K Q ((o.semAt ρ a.eval).run P w)
 rw [Oper.semAt_eq ρ _ o hd]
 rcases hex with hex | ⟨hex, rfl⟩
 ·rw [hex]; simp only [Oper.uponIn]; exact hK
 ·rw [hex]; simp only [Oper.uponIn]; exact hK
theorem put_at {a : Act} {d t : Nat} {v : Value} (hd : d < a.tmps.size) : (a.put (some d) v).tmps[t]?.getD undef = if d = t then v else a.tmps[t]?.getD undef := by
 simp only [Act.put]
 by_cases e : d = t
 ·subst e
  simp [hd]
 ·rw [if_neg e, Array.getElem?_setIfInBounds_ne e]
theorem getD_set (S : Array Bool) (i k : Nat) : (S.setIfInBounds i true).getD k true = if k = i then true else S.getD k true := by
 rw [Array.getD_eq_getD_getElem?, Array.getD_eq_getD_getElem?]
 by_cases hk : k = i
 ·subst hk
  rw [if_pos rfl]
  by_cases hks : k < S.size
  ·simp [hks]
  ·rw [Array.getElem?_eq_none (by simp; omega)]
   rfl
 ·rw [if_neg hk, Array.getElem?_setIfInBounds_ne (fun e => hk e.symm)]
theorem eval_tmp (a : Act) (d : Nat) : a.eval (.tmp d) = a.tmps[d]?.getD undef := by
 simp [Act.eval, Array.getD_eq_getD_getElem?]
section
variable {P : Program} {n : Nat} {X : List (Array Value × List (Nat × AV))} {KK : List (Nat × Obj)} {C0 : Nat → Nat → Prop} {w0 : World}
theorem Rel.forget {N : Cfg} {σ : AS} {a : Act} {w : World} {C : Nat → Nat → Prop} {m : Nat → Option Nat} {tk : Nat → Option TK} {own : Nat → Option (Nat ⊕ Nat)} (h : Rel N C0 w0 σ a w C m tk own) (ds : List Nat) :
  Rel N C0 w0 ⟨undL ds σ.fr, σ.hp, σ.tk, σ.pd⟩ a w C m tk own :=
 {gf := h.gf, below := h.below, c0 := h.c0, cnew := h.cnew, cval := h.cval, nc := h.nc, ext := h.ext, size := h.size, slots := fun t => by
   show Rep C w m tk _ (get (undL ds σ.fr) t)
   rw [get_undL]
   split
   ·trivial
   ·exact h.slots t, boxes := h.boxes, mdom := h.mdom, toks := h.toks, tdom := h.tdom, owned := h.owned, owns := h.owns }
theorem Rel.know {N : Cfg} {σ : AS} {a : Act} {w : World} {C : Nat → Nat → Prop} {m : Nat → Option Nat} {tk : Nat → Option TK} {own : Nat → Option (Nat ⊕ Nat)} (h : Rel N C0 w0 σ a w C m tk own) {d : Nat} {av : AV} (hv : Rep C w m tk (a.tmps[d]?.getD undef) av) :
  Rel N C0 w0 ⟨(d, av) :: σ.fr, σ.hp, σ.tk, σ.pd⟩ a w C m tk own :=
 {gf := h.gf, below := h.below, c0 := h.c0, cnew := h.cnew, cval := h.cval, nc := h.nc, ext := h.ext, size := h.size, slots := fun t => by
   show Rep C w m tk _ (get ((d, av) :: σ.fr) t)
   simp only [get]
   by_cases e : d = t
   ·rw [if_pos e]; subst e; exact hv
   ·rw [if_neg e]; exact h.slots t, boxes := h.boxes, mdom := h.mdom, toks := h.toks, tdom := h.tdom, owned := h.owned, owns := h.owns }
theorem Rel.putU {σ : AS} {ds : List Nat} {fr : FrL} (hfr : σ.fr = undL ds fr) {a : Act} {w : World} {C : Nat → Nat → Prop} {m : Nat → Option Nat} {tk : Nat → Option TK} {own : Nat → Option (Nat ⊕ Nat)} (h : Rel ⟨n, X, KK, none⟩ C0 w0 σ a w C m tk own) {d : Nat} (hd : d ∈ ds) (hn : d < n) (v : Value) :
  Rel ⟨n, X, KK, none⟩ C0 w0 σ (a.put (some d) v) w C m tk own := by
 have h1 := h.put (d := some d) (v := v) (av := .und) (fun t e => by injection e with e; subst e; exact hn) trivial
 refine h1.eqs ⟨fun t => ?_, fun _ => rfl, fun _ => rfl, rfl⟩
 rw [get_put, hfr, get_undL]
 by_cases e : (some d : Option Nat) = some t
 ·injection e with e
  subst e
  rw [if_pos hd, if_pos rfl]
 ·rw [if_neg e]
def BInv (P : Program) (n : Nat) (X : List (Array Value × List (Nat × AV))) (KK : List (Nat × Obj)) (C0 : Nat → Nat → Prop) (w0 : World) (σ : AS) (ds : List Nat) (d0 d1 d2 d3 d4 d5 l ln : Nat) (kv : List (List Int × Int)) (xs : List Int) (S : Array Bool) (a : Act) (w : World) : Prop :=
 ∃ C m tk own kvc, Rel ⟨n, X, KK, none⟩ C0 w0 ⟨undL ds σ.fr, σ.hp, σ.tk, some (.mp l ln kvc)⟩ a w C m tk own ∧
  kvc = (if S.getD 6 true = true then kvset kv xs (w64 (kvget kv xs + 1)) else if S.getD 4 true = true then kvset kv xs (kvget kv xs) else kv) ∧
  (S.getD 0 true = true → a.tmps[d0]?.getD undef = .map (some l)) ∧ (S.getD 1 true = true → a.tmps[d1]?.getD undef = kval xs) ∧ (S.getD 2 true = true → a.tmps[d2]?.getD undef = .int .i64 (kvget kv xs)) ∧
  (S.getD 3 true = true → a.tmps[d3]?.getD undef = .int .i64 (w64 (kvget kv xs + 1))) ∧ ((S.getD 6 true = true → S.getD 4 true = true ∧ S.getD 3 true = true) ∧ (S.getD 3 true = true → S.getD 2 true = true) ∧ (S.getD 4 true = true → S.getD 1 true = true) ∧ (S.getD 5 true = true → S.getD 4 true = true)) ∧
  (S.getD 4 true = true → ∃ b : Nat, a.tmps[d4]?.getD undef = .tuple #[.int .i64 (kvget kv xs), goInt b] ∧ (S.getD 5 true = true → a.tmps[d5]?.getD undef = goInt b) ∧
   (S.getD 6 true = false → ∃ (es : Array MapEntry) (ck j : Nat) (e0 : MapEntry), w.heap[l]? = some (.map es ck) ∧ MapIs es ck ln kvc ∧ es.toList[j]? = some e0 ∧ e0.key = kval xs ∧ e0.born = b))
theorem bump_any {ρ : Option Nat} {fu : Nat} {ops : Array Oper} {Q : Exit → Act → World → Prop} {t : TypeId} {xm : VO} {k : VOp} {ds : List Nat} (hm : bumpOK P n ops t xm k ds = true)
  {σ : AS} {l ln : Nat} {kv : List (List Int × Int)} {xs : List Int} (hpd : σ.pd = some (.mp l ln kv)) (hx : ev σ xm = .mpr l) (hc : vcond k σ) (hd : dcond k σ) (hk : vval k σ = .agg (xs.map .int)) (hl : xs.length = ln)
  (hr : ∀ y ∈ xs, inR y) (hM : MKey P t ln)
  (hQ : ∀ a w, R ⟨n, X, KK, none⟩ C0 w0 ⟨undL ds σ.fr, σ.hp, σ.tk, some (.mp l ln (kvset kv xs (w64 (kvget kv xs + 1))))⟩ a w → Q .normal a w)
  {a : Act} {w : World} (h : R ⟨n, X, KK, none⟩ C0 w0 σ a w) : wpAnyIn (Fr ρ) fu P .any ops Q ops.size (Array.replicate ops.size false) a w := by
 unfold bumpOK at hm
 split at hm
 case h_2 => cases hm
 rename_i o0 o1 o2 o3 o4 o5 o6 d0 d1 d2 d3 d4 d5 hops
 have hops' : ops = #[o0, o1, o2, o3, o4, o5, o6] := by
  apply Array.ext'
  rw [hops]
 simp only [Bool.and_eq_true, beq_iff_eq, decide_eq_true_eq] at hm
 obtain ⟨⟨⟨⟨⟨⟨⟨⟨⟨q1, q2⟩, q3⟩, q4⟩, q5⟩, q6⟩, q7⟩, q8⟩, q9⟩, q10⟩ := hm
 subst hops'
 clear hops
 simp only [List.all_cons, List.all_nil, Bool.and_true, Bool.and_eq_true, Option.isNone_iff_eq_none] at q1
 obtain ⟨g0, g1, g2, g3, g4, g5, g6⟩ := q1
 simp only [List.all_cons, List.all_nil, Bool.and_true, Bool.and_eq_true, decide_eq_true_eq] at q3
 obtain ⟨n0, n1, n2, n3, n4, n5⟩ := q3
 simp only [List.nodup_cons, List.mem_cons, List.not_mem_nil, or_false, not_or, List.nodup_nil, and_true, not_false_eq_true] at q4
 obtain ⟨⟨h01, h02, h03, h04, h05⟩, ⟨h12, h13, h14, h15⟩, ⟨h23, h24, h25⟩, ⟨h34, h35⟩, h45⟩ := q4
 obtain ⟨⟨⟨⟨⟨⟨e0, e1⟩, e2⟩, e3⟩, e4⟩, e5⟩, e6⟩ := q8
 obtain ⟨⟨⟨⟨⟨⟨p0, p1⟩, p2⟩, p3⟩, p4⟩, p5⟩, p6⟩ := q9
 simp only [List.all_cons, List.all_nil, Bool.and_true, Bool.and_eq_true, List.contains_iff_mem] at q10
 obtain ⟨⟨⟨⟨⟨c20, c21⟩, c32⟩, c40, c41⟩, c54⟩, c60, c63, c65⟩ := q10
 have hdir : ∀ (i : Nat) (o : Oper), (#[o0, o1, o2, o3, o4, o5, o6] : Array Oper)[i]? = some o → ∀ d ∈ direct o, d < i := by
  intro i o ho d hdd
  have hmem : (o, i) ∈ (#[o0, o1, o2, o3, o4, o5, o6] : Array Oper).toList.zipIdx := by
   rw [List.mem_zipIdx_iff_getElem?]
   simpa using ho
  have := List.all_eq_true.1 q2 _ hmem
  have := List.all_eq_true.1 this d hdd
  simpa using this
 obtain ⟨C, m, tk, own, h⟩ := h
 refine any_inv (BInv P n X KK C0 w0 σ [d0, d1, d2, d3, d4, d5] d0 d1 d2 d3 d4 d5 l ln kv xs) hdir ?_ ?_ _ _ _ _ (by simp) (Nat.le_trans (List.length_filter_le _ _) (by simp)) ?_
 ·rintro S a w i o K hS ⟨C, m, tk, own, kvc, rel, hcur, t0, t1, t2, t3, ⟨t6, t32, t41, t54⟩, t4⟩ ho hSi hdo hK
  have hsz : a.tmps.size = n := rel.size
  have hi : i < 7 := by have := (Array.getElem?_eq_some_iff.1 ho).1; simpa using this
  have tr : ∀ d, S.getD d false = true → S.getD d true = true := by
   intro d hd
   by_cases hds : d < S.size
   ·simp only [Array.getD, hds, dif_pos] at hd ⊢
    exact hd
   ·simp [Array.getD, hds] at hd
  have hfr : ∀ u, u ∉ [d0, d1, d2, d3, d4, d5] → get (undL [d0, d1, d2, d3, d4, d5] σ.fr) u = get σ.fr u := fun u hu => by rw [get_undL, if_neg hu]
  rcases (show i = 0 ∨ i = 1 ∨ i = 2 ∨ i = 3 ∨ i = 4 ∨ i = 5 ∨ i = 6 by omega) with rfl | rfl | rfl | rfl | rfl | rfl | rfl
  ·-- the map
   obtain rfl : o0 = o := by simpa using ho
   obtain ⟨v, hex, hv⟩ := q_mov rel p0
   have hev : vval (.mov xm) ⟨undL [d0, d1, d2, d3, d4, d5] σ.fr, σ.hp, σ.tk, some (.mp l ln kvc)⟩ = .mpr l := by
    rw [← hx]
    exact ev_congr fun u hu => hfr u (disj_spec q5 u hu)
   rw [hev] at hv
   have hv' : v = .map (some l) := by
    have hv0 : Rep0 C w v (.mpr l) := hv
    cases hv0
    rfl
   subst hv'
   refine wpOp_val ho g0 (fun c e => by rw [e] at p0; simp [mop] at p0) hex (hK _ _ ?_)
   rw [e0]
   refine ⟨C, m, tk, own, kvc, Rel.putU rfl rel (by simp) n0 _, ?_⟩
   simp only [getD_set, put_at (show d0 < a.tmps.size by omega), if_neg h01, if_neg h02, if_neg h03, if_neg h04, if_neg h05]
   simp (decide := true) only [if_true, if_false]
   exact ⟨hcur, trivial, t1, t2, t3, ⟨t6, t32, t41, t54⟩, t4⟩
  ·-- the key
   obtain rfl : o1 = o := by simpa using ho
   have hS4 : S.getD 4 true = true → False := fun h4 => by rw [t41 h4] at hSi; cases hSi
   obtain ⟨a1, a2, a3, a4⟩ := alike_op (op := k) (σ := σ) (σ' := ⟨undL [d0, d1, d2, d3, d4, d5] σ.fr, σ.hp, σ.tk, some (.mp l ln kvc)⟩) ⟨fun u hu => hfr u (disj_spec q6 u hu), fun _ _ => rfl, fun _ _ h => h, fun _ _ => rfl, fun _ _ _ _ => rfl⟩ hd hc
   obtain ⟨v, w', C', m', tk', own', hex, rel', hv⟩ := step_any rel p1 a1
   rw [a3, hk] at hv
   have hv' := rep_kval hv
   subst hv'
   have hvn : vnext k ⟨undL [d0, d1, d2, d3, d4, d5] σ.fr, σ.hp, σ.tk, some (.mp l ln kvc)⟩ = ⟨undL [d0, d1, d2, d3, d4, d5] σ.fr, σ.hp, σ.tk, some (.mp l ln kvc)⟩ := by
    rw [vnext_eff a2]
    cases k <;> first | rfl | simp [isLd] at q7
   rw [hvn] at rel'
   refine wpOp_val ho g1 (fun c e => by rw [e] at p1; cases k <;> simp [isLd, mopA, mop, mop2, mcall] at q7 p1) hex (hK _ _ ?_)
   rw [e1]
   refine ⟨C', m', tk', own', kvc, Rel.putU rfl rel' (by simp) n1 _, ?_⟩
   simp only [getD_set, put_at (show d1 < a.tmps.size by omega), if_neg (Ne.symm h01), if_neg h12, if_neg h13, if_neg h14, if_neg h15]
   simp (decide := true) only [if_true, if_false]
   exact ⟨hcur, t0, trivial, t2, t3, ⟨t6, t32, fun _ => trivial, t54⟩, fun h4 => (hS4 h4).elim⟩
  ·-- what it is
   obtain rfl : o2 = o := by simpa using ho
   have ho2 : o2.op = .lookup t (.tmp d0) (.tmp d1) false := by
    unfold isLook at p2
    split at p2
    ·rename_i heq
     simp only [Bool.and_eq_true, beq_iff_eq, Bool.not_eq_true'] at p2
     obtain ⟨⟨⟨rfl, rfl⟩, rfl⟩, rfl⟩ := p2
     exact heq
    ·cases p2
   have hS6 : S.getD 6 true = true → False := fun h6 => by rw [t32 (t6 h6).2] at hSi; cases hSi
   have hg : kvget kvc xs = kvget kv xs := by
    rw [hcur, if_neg hS6]
    split
    ·rw [kvget_set, if_pos rfl]
    ·rfl
   obtain ⟨hge, es, ck, hb, hmi⟩ := rel.nc.m l ln kvc rfl
   have hrun := look_run hM hb hmi hl hr
   rw [hg] at hrun
   have b0 := t0 (tr 0 (hdo 0 c20))
   have b1 := t1 (tr 1 (hdo 1 c21))
   refine wpOp_val (v := .int .i64 (kvget kv xs)) (w' := w) ho g2 (fun c e => by rw [ho2] at e; cases e) (.inl (by simp [execOp, ho2, eval_tmp, b0, b1, hrun])) (hK _ _ ?_)
   rw [e2]
   refine ⟨C, m, tk, own, kvc, Rel.putU rfl rel (by simp) n2 _, ?_⟩
   simp only [getD_set, put_at (show d2 < a.tmps.size by omega), if_neg (Ne.symm h02), if_neg (Ne.symm h12), if_neg h23, if_neg h24, if_neg h25]
   simp (decide := true) only [if_true, if_false]
   exact ⟨hcur, t0, t1, trivial, t3, ⟨t6, fun _ => trivial, t41, t54⟩, t4⟩
  ·-- one more
   obtain rfl : o3 = o := by simpa using ho
   have b2 := t2 (tr 2 (hdo 2 c32))
   have rel2 := rel.know (d := d2) (av := .int (kvget kv xs)) (by rw [b2]; exact Rep0.int _)
   obtain ⟨v, hex, hv⟩ := q_bin rel2 p3 (by
    show BK.cond .add (get ((d2, AV.int (kvget kv xs)) :: _) d2) (.int 1)
    simp [get, BK.cond])
   have hvv : vval (.bin .add (.t d2) (.k (.int 1))) ⟨(d2, AV.int (kvget kv xs)) :: undL [d0, d1, d2, d3, d4, d5] σ.fr, σ.hp, σ.tk, some (.mp l ln kvc)⟩ = .int (w64 (kvget kv xs + 1)) := by
    show BK.val .add (get ((d2, AV.int (kvget kv xs)) :: _) d2) (.int 1) = _
    simp [get, BK.val]
   rw [hvv] at hv
   have hv' := rep_int hv
   subst hv'
   refine wpOp_val ho g3 (fun c e => by rw [e] at p3; simp [mop] at p3) hex (hK _ _ ?_)
   rw [e3]
   refine ⟨C, m, tk, own, kvc, Rel.putU rfl rel (by simp) n3 _, ?_⟩
   have s2 := tr 2 (hdo 2 c32)
   simp only [getD_set, put_at (show d3 < a.tmps.size by omega), if_neg (Ne.symm h03), if_neg (Ne.symm h13), if_neg (Ne.symm h23), if_neg h34, if_neg h35]
   simp (decide := true) only [if_true, if_false]
   exact ⟨hcur, t0, t1, t2, trivial, ⟨fun h => ⟨(t6 h).1, trivial⟩, fun _ => s2, t41, t54⟩, t4⟩
  ·-- the entry
   obtain rfl : o4 = o := by simpa using ho
   have ho4 : o4.op = .mapEntry t (.tmp d0) (.tmp d1) := by
    unfold isEntry at p4
    split at p4
    ·rename_i heq
     simp only [Bool.and_eq_true, beq_iff_eq] at p4
     obtain ⟨⟨rfl, rfl⟩, rfl⟩ := p4
     exact heq
    ·cases p4
   have hS6 : S.getD 6 true = true → False := fun h6 => by rw [(t6 h6).1] at hSi; cases hSi
   have hS5 : S.getD 5 true = true → False := fun h5 => by rw [t54 h5] at hSi; cases hSi
   have hkv : kvc = kv := by rw [hcur, if_neg hS6, if_neg (by rw [hSi]; simp)]
   subst hkv
   obtain ⟨hge, es, ck, hb, hmi⟩ := rel.nc.m l ln kvc rfl
   obtain ⟨es', ck', j, e0', hrun, hmi', hj, hkk⟩ := entry_run hM hb hmi hl hr
   have b0 := t0 (tr 0 (hdo 0 c40))
   have b1 := t1 (tr 1 (hdo 1 c41))
   have rel' := rel.putMap hb hge hmi'
   have hlt := (Array.getElem?_eq_some_iff.1 hb).1
   refine wpOp_val (v := .tuple #[.int .i64 (kvget kvc xs), goInt e0'.born]) (w' := w.putObj l (.map es' ck')) ho g4 (fun c e => by rw [ho4] at e; cases e) (.inl (by simp [execOp, ho4, eval_tmp, b0, b1, hrun])) (hK _ _ ?_)
   rw [e4]
   refine ⟨C, m, tk, own, kvset kvc xs (kvget kvc xs), Rel.putU rfl rel' (by simp) n4 _, ?_⟩
   have s1 := tr 1 (hdo 1 c41)
   simp only [getD_set, put_at (show d4 < a.tmps.size by omega), if_neg (Ne.symm h04), if_neg (Ne.symm h14), if_neg (Ne.symm h24), if_neg (Ne.symm h34), if_neg h45]
   simp (decide := true) only [if_true, if_false]
   refine ⟨by rw [if_neg hS6], t0, t1, t2, t3, ⟨fun h => (hS6 h).elim, t32, fun _ => s1, fun h => trivial⟩, fun _ => ⟨e0'.born, rfl, fun h => (hS5 h).elim, fun _ => ⟨es', ck', j, e0', World.putObj_heap_same hlt, hmi', hj, hkk, rfl⟩⟩⟩
  ·-- its stamp
   obtain rfl : o5 = o := by simpa using ho
   have ho5 : o5.op = .extract (.tmp d4) 1 := by
    unfold isExt at p5
    split at p5
    ·rename_i heq
     simp only [Bool.and_eq_true, beq_iff_eq] at p5
     obtain ⟨rfl, rfl⟩ := p5
     exact heq
    ·cases p5
   have s4 := tr 4 (hdo 4 c54)
   obtain ⟨b, hb4, _, hes⟩ := t4 s4
   refine wpOp_val (v := goInt b) (w' := w) ho g5 (fun c e => by rw [ho5] at e; cases e) (.inl (by simp [execOp, ho5, eval_tmp, hb4, Instr.extract])) (hK _ _ ?_)
   rw [e5]
   refine ⟨C, m, tk, own, kvc, Rel.putU rfl rel (by simp) n5 _, ?_⟩
   simp only [getD_set, put_at (show d5 < a.tmps.size by omega), if_neg (Ne.symm h05), if_neg (Ne.symm h15), if_neg (Ne.symm h25), if_neg (Ne.symm h35), if_neg (Ne.symm h45)]
   simp (decide := true) only [if_true, if_false]
   exact ⟨hcur, t0, t1, t2, t3, ⟨t6, t32, t41, fun _ => s4⟩, fun _ => ⟨b, hb4, fun _ => rfl, hes⟩⟩
  ·-- it is written
   obtain rfl : o6 = o := by simpa using ho
   have ho6 : o6.op = .entryStore t (.tmp d0) (.tmp d5) (.tmp d3) := by
    unfold isEStore at p6
    split at p6
    ·rename_i heq
     simp only [Bool.and_eq_true, beq_iff_eq] at p6
     obtain ⟨⟨⟨rfl, rfl⟩, rfl⟩, rfl⟩ := p6
     exact heq
    ·cases p6
   have s5 := tr 5 (hdo 5 c65)
   have s4 := t54 s5
   have s3 := tr 3 (hdo 3 c63)
   obtain ⟨b, hb4, hb5, hes⟩ := t4 s4
   obtain ⟨es, ck, j, e0', hb, hmi, hj, hkk, hbb⟩ := hes hSi
   have b0 := t0 (tr 0 (hdo 0 c60))
   have b3 := t3 s3
   have b5 := hb5 s5
   obtain ⟨es', hrun, hmi'⟩ := store_run (P := P) (t := t) (w := w) hb hmi hj hkk (w64 (kvget kv xs + 1))
   rw [hbb] at hrun
   have hge := (rel.nc.m l ln kvc rfl).1
   have rel' := rel.putMap hb hge hmi'
   have hkv : kvset kvc xs (w64 (kvget kv xs + 1)) = kvset kv xs (w64 (kvget kv xs + 1)) := by
    rw [hcur, if_neg (by rw [hSi]; simp), if_pos s4, kvset_kvset]
   refine wpOp_val (v := undef) (w' := w.putObj l (.map es' ck)) ho g6 (fun c e => by rw [ho6] at e; cases e) (.inr ⟨by simp [execOp, ho6, eval_tmp, b0, b3, b5, hrun], rfl⟩) (hK _ _ ?_)
   rw [e6]
   refine ⟨C, m, tk, own, kvset kvc xs (w64 (kvget kv xs + 1)), rel', ?_⟩
   simp only [getD_set, Act.put]
   simp (decide := true) only [if_true, if_false]
   exact ⟨hkv, t0, t1, t2, t3, ⟨fun _ => ⟨s4, s3⟩, t32, t41, t54⟩, fun _ => ⟨b, hb4, hb5, fun h => by simp at h⟩⟩
 ·rintro S a w hS ⟨C, m, tk, own, kvc, rel, hcur, _⟩ hall
  rw [if_pos (hall 6 (by simp))] at hcur
  subst hcur
  exact hQ a w ⟨C, m, tk, own, rel⟩
 ·have hf := h.forget [d0, d1, d2, d3, d4, d5]
  rw [hpd] at hf
  exact ⟨C, m, tk, own, kv, hf, by simp, by simp, by simp, by simp, by simp, by simp, by simp⟩
end
end Go.V
