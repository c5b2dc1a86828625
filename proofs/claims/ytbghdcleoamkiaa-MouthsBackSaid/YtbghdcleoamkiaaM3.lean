/- Merged by program: V19, V20, V21, V22, CodeA. -/
import Derived.Test.YtbghdcleoamkiaaM2
import Derived.Deep.Slices
import Derived.ChangeArms
import Derived.Carry
import Derived.Test.YtbghdcleoamkiaaProg
import Derived.ProofKit
/- The abstract machine V, part 19: contracts out of weakest preconditions. -/
set_option linter.unusedSimpArgs false
set_option linter.unusedVariables false
set_option linter.unnecessarySimpa false
namespace Go.V
open Go Go.RowKit

section
variable (P : Program)

/-- The boxes that the results show. -/
def outIds (σ : AS) : List ResultVar → List Nat
  | [] => []
  | .tmp t :: r => (get σ.fr t).bid ++ outIds σ r
  | .cell t _ :: r =>
    (match get σ.fr t with
     | .ptr b _ => match getB σ.hp b with
       | some bx => bids bx.cells ++ [b]
       | none => []
     | _ => []) ++ outIds σ r

def out1 (σ : AS) : ResultVar → AV
  | .tmp t => strip σ.hp (get σ.fr t)
  | .cell t ty =>
    match get σ.fr t with
    | .ptr b 0 => match getB σ.hp b with
      | some ⟨cells, true⟩ => match aggOf P ty with
        | some true => if szOf P ty = some cells.length then .agg cells else .und
        | some false => match cells with
          | [x] => x
          | _ => .und
        | none => .und
      | _ => .und
    | _ => .und

def outs (σ : AS) : List ResultVar → List AV
  | [] => []
  | r :: rs => out1 P σ r :: outs σ rs

def tup1 : List AV → AV
  | [x] => x
  | l => .tup l

/-- The end: what is returned. -/
def Fin (rs : List ResultVar) (res : AV) : Ex → AS → Prop
  | .exit _, _ => False
  | _, σ => noUnd (outs P (frzS (outIds σ rs) σ) rs) ∧ tup1 (outs P (frzS (outIds σ rs) σ) rs) = res

def start (args : List AV) : AS := ⟨args0 0 args, [], [], none⟩
end

section
variable {P : Program}
variable {N : Cfg} {C0 : Nat → Nat → Prop} {w0 : World} {σ : AS} {a : Act} {w : World} {C : Nat → Nat → Prop} {m : Nat → Option Nat} {tk : Nat → Option TK} {own : Nat → Option (Nat ⊕ Nat)}

def item (tmps : Array Value) : ResultVar → Sem Value
  | .tmp t => pure (tmps.getD t undef)
  | .cell a t => do loadVar t (← asAddr (tmps.getD a undef))

theorem isUnd_ne {av : AV} (h : av.isUnd = false) : av ≠ .und := by intro e; subst e; simp [AV.isUnd] at h

theorem item_run (h : Rel N C0 w0 σ a w C m tk own) (r : ResultVar) (hu : (out1 P σ r).isUnd = false) :
    ∃ v, (item a.tmps r).run P w = .ok v w ∧ Rep0 C w v (out1 P σ r) := by
  cases r with
  | tmp t =>
    refine ⟨a.tmps[t]?.getD undef, by simp [item], ?_⟩
    exact strip_rep h (h.slots t) (isUnd_ne hu)
  | cell t ty =>
    have hs := h.slots t
    simp only [out1] at hu ⊢
    revert hu
    generalize get σ.fr t = av at hs ⊢
    cases av with
    | ptr b off =>
      cases off with
      | succ o => simp [AV.isUnd]
      | zero =>
        simp only
        obtain ⟨blk, hm1, hv⟩ := hs
        cases hg : getB σ.hp b with
        | none => simp [AV.isUnd]
        | some bx =>
          obtain ⟨cells, fz⟩ := bx
          cases fz with
          | false => simp [AV.isUnd]
          | true =>
            simp only
            obtain ⟨blk', hm2, hbox⟩ := h.boxes b _ hg
            rw [hm1] at hm2
            obtain rfl : blk = blk' := by simpa using hm2
            simp only [BoxOK] at hbox
            cases ha : aggOf P ty with
            | none => simp [AV.isUnd]
            | some g =>
              cases g with
              | true =>
                simp only
                by_cases hs : szOf P ty = some cells.length
                · rw [if_pos hs]
                  intro _
                  have hcell : ∀ j, j < cells.length → w.cell? ((⟨blk, 0, none⟩ : Addr).add j) = some ((w.cell? ⟨blk, j, none⟩).getD undef) := by
                    intro j hj
                    obtain ⟨_, _, v, hv, _⟩ := hbox j cells[j] (by simp [hj])
                    rw [add_none, Nat.zero_add, hv]
                    rfl
                  have hl := run_loadCells (P := P) w ⟨blk, 0, none⟩ cells.length (fun j => (w.cell? ⟨blk, j, none⟩).getD undef) hcell
                  refine ⟨_, by simp [item, hv, asAddr, loadVar, run_aggOf ha, run_szOf hs, hl]; rfl, ?_⟩
                  refine .agg _ _ (by simp) (fun j c hj => (hbox j c hj).2.1) fun j c hj => ?_
                  obtain ⟨_, _, v, hv, hr⟩ := hbox j c hj
                  have hlt := (List.getElem?_eq_some_iff.1 hj).1
                  simpa [hlt, hv] using hr
                · rw [if_neg hs]
                  simp [AV.isUnd]
              | false =>
                simp only
                split
                · rename_i x
                  intro _
                  obtain ⟨_, _, v, hc, hr⟩ := hbox 0 x rfl
                  refine ⟨v, by simp [item, hv, asAddr, loadVar, run_aggOf ha, hc], hr⟩
                · simp [AV.isUnd]
    | _ => simp [AV.isUnd]

theorem items_run (h : Rel N C0 w0 σ a w C m tk own) : ∀ (rs : List ResultVar), noUnd (outs P σ rs) →
    ∃ vs : List Value, (rs.mapM (item a.tmps)).run P w = .ok vs w ∧ vs.length = rs.length ∧ ∀ (j : Nat) (c : AV), (outs P σ rs)[j]? = some c → Rep0 C w (vs[j]?.getD undef) c
  | [], _ => ⟨[], by simp, rfl, fun j c hj => by simp [outs] at hj⟩
  | r :: rs, hu => by
    obtain ⟨v, e1, e2⟩ := item_run h r hu.1
    obtain ⟨vs, e3, e4, e5⟩ := items_run h rs hu.2
    refine ⟨v :: vs, by simp [List.mapM_cons, e1, e3], by simp [e4], fun j c hj => ?_⟩
    cases j with
    | zero => simp [outs] at hj; subst hj; simpa using e2
    | succ j => simpa using e5 j c (by simpa [outs] using hj)

theorem outs_length (σ : AS) : ∀ rs, (outs P σ rs).length = rs.length
  | [] => rfl
  | _ :: rs => by simp [outs, outs_length σ rs]

theorem results_one {fn : Func} {r : ResultVar} {tmps : Array Value} (hrs : fn.results = #[r]) {v : Value} (he : (item tmps r).run P w = .ok v w) : (results fn tmps).run P w = .ok v w := by
  have : results fn tmps = (do
    let l ← [r].mapM (item tmps)
    pure (if h : l.toArray.size = 1 then l.toArray[0] else .tuple l.toArray)) := by
    unfold results
    rw [hrs]
    have e : (fun (r : ResultVar) => match r with
      | .tmp t => (pure (tmps.getD t undef) : Sem Value)
      | .cell x t => do loadVar t (← asAddr (tmps.getD x undef))) = item tmps := by
      funext r
      cases r <;> rfl
    have e2 : (#[r] : Array ResultVar) = [r].toArray := rfl
    rw [e2]
    simp only [List.mapM_toArray]
    simp only [map_eq_pure_bind, bind_assoc, pure_bind]
    congr 1
  rw [this]
  simp [he]

theorem results_run (h : Rel N C0 w0 σ a w C m tk own) {fn : Func} {rs : List ResultVar} (hrs : fn.results = rs.toArray) (hu : noUnd (outs P σ rs)) :
    ∃ v, (results fn a.tmps).run P w = .ok v w ∧ Rep0 C w v (tup1 (outs P σ rs)) := by
  obtain ⟨vs, e1, e2, e3⟩ := items_run h rs hu
  have hl := outs_length (P := P) σ rs
  have hrun : (results fn a.tmps).run P w = .ok (if h : vs.toArray.size = 1 then vs.toArray[0] else .tuple vs.toArray) w := by
    have : results fn a.tmps = (do
      let l ← rs.mapM (item a.tmps)
      pure (if h : l.toArray.size = 1 then l.toArray[0] else .tuple l.toArray)) := by
      unfold results
      rw [hrs]
      have e : (fun (r : ResultVar) => match r with
        | .tmp t => (pure (a.tmps.getD t undef) : Sem Value)
        | .cell x t => do loadVar t (← asAddr (a.tmps.getD x undef))) = item a.tmps := by
        funext r
        cases r <;> rfl
      simp only [List.mapM_toArray]
      simp only [map_eq_pure_bind, bind_assoc, pure_bind]
      congr 1
    rw [this]
    simp [e1]
  refine ⟨_, hrun, ?_⟩
  match vs, outs P σ rs, hl, e2, e3 with
  | [v], [c], _, _, e3 => simpa [tup1] using e3 0 c rfl
  | [], [], _, _, e3 => exact .tup _ _ rfl fun j c hj => by simp at hj
  | v :: u :: vs, c :: d :: cs, h1, h2, e3 =>
    simp only [tup1, List.size_toArray, List.length_cons, Nat.add_eq_right]
    rw [dif_neg (by omega)]
    refine .tup _ _ (by simp only [List.size_toArray, List.length_cons] at h1 h2 ⊢; omega) fun j c hj => ?_
    simpa using e3 j c hj
  | [], _ :: _, h1, h2, _ => simp at h1 h2; omega
  | [_], [], h1, h2, _ => simp at h1 h2; omega
  | [_], _ :: _ :: _, h1, h2, _ => simp at h1 h2; omega
  | _ :: _ :: _, [], h1, h2, _ => simp at h1 h2; omega
  | _ :: _ :: _, [_], h1, h2, _ => simp at h1 h2; omega

def rsOK : List ResultVar → List ResultVar → Bool
  | [], [] => true
  | .tmp t :: r, .tmp u :: s => t == u && rsOK r s
  | .cell t ty :: r, .cell u ty' :: s => t == u && ty == ty' && rsOK r s
  | _, _ => false

theorem rsOK_spec : ∀ (r s : List ResultVar), rsOK r s = true → r = s
  | [], [], _ => rfl
  | .tmp t :: r, .tmp u :: s, h => by
    simp only [rsOK, Bool.and_eq_true, beq_iff_eq] at h
    rw [h.1, rsOK_spec r s h.2]
  | .cell t ty :: r, .cell u ty' :: s, h => by
    simp only [rsOK, Bool.and_eq_true, beq_iff_eq] at h
    rw [h.1.1, h.1.2, rsOK_spec r s h.2]
  | [], _ :: _, h => by simp [rsOK] at h
  | .tmp _ :: _, [], h => by simp [rsOK] at h
  | .cell _ _ :: _, [], h => by simp [rsOK] at h
  | .tmp _ :: _, .cell _ _ :: _, h => by simp [rsOK] at h
  | .cell _ _ :: _, .tmp _ :: _, h => by simp [rsOK] at h

/-- The function as the checker reads it. -/
def fmatch (P : Program) (fn : Func) (nargs : Nat) (rs : List ResultVar) (vc : VC) : Bool :=
  (match fn.body with
   | some c => cmatch P fn.ntmps c vc
   | none => false) && decide (nargs ≤ fn.ntmps) && rsOK fn.results.toList rs && !(fn.name == "runtime.NumGoroutine")

/-- The marks are come to. -/
theorem leaves_marks {P : Program} {n : Nat} {X : List (Array Value × List (Nat × AV))} {KK : List (Nat × Obj)} {L : Option (Nat × (Option Ex → Obj))} {C0 : Nat → Nat → Prop} {w0 : World} {fn : Func} {tmps : Array Value} {Rr : Ending → World → Prop} {σ : AS} {C : Nat → Nat → Prop} {m : Nat → Option Nat} {tk : Nat → Option TK} {own : Nat → Option (Nat ⊕ Nat)}
    (hfin : ∀ w, Rel ⟨n, X, KK, L⟩ C0 w0 σ ⟨tmps, []⟩ w C m tk own → ∃ v, (results fn tmps).run P w = .ok v w ∧ Rr (.returned v) w) :
    ∀ (ds : List Deferred) (w : World), Rel ⟨n, X, KK, L⟩ C0 w0 σ ⟨tmps, ds⟩ w C m tk own → (∀ q ∈ KK, q.1 ∉ ds.map fun d => (dk d).1) → (∀ l f, L = some (l, f) → l ∉ ds.map fun d => (dk d).1) →
      LeavesInM (Fr none) 0 P fn tmps Rr ds .returning w
  | [], w, h, _, _ => hfin w h
  | d :: ds, w, h, hk, hl => by
    refine ⟨by simp, .inl ?_⟩
    obtain ⟨D, rfl, hD⟩ := h.nc.d d (by simp)
    refine ⟨D, w.putObj D (.deferred none), rfl, run_takeDeferred hD.2.1, ?_⟩
    have hnd := h.nc.nd
    simp only [List.map_cons, List.nodup_cons] at hnd
    have hne : ∀ q ∈ KK, q.1 ≠ D := fun q hq e => hk q hq (by simp [dk, e])
    have hne2 : ∀ l f, L = some (l, f) → l ≠ D := fun l f e1 e => hl l f e1 (by simp [dk, e])
    refine leaves_marks hfin ds _ ?_ (fun q hq hm => hk q hq (by simp at hm ⊢; exact .inr hm)) (fun l f e hm => hl l f e (by simp at hm ⊢; exact .inr hm))
    have h1 : Rel ⟨n, X, KK, none⟩ C0 w0 σ ⟨tmps, ds⟩ w C m tk own :=
      { below := h.below, c0 := h.c0, cnew := h.cnew, cval := h.cval, nc := ⟨h.nc.k, (fun _ _ e => by cases e), fun d hd => h.nc.d d (by simp [hd]), hnd.2, fun d hd => ⟨(h.nc.dis d (by simp [hd])).1, fun _ _ e => by cases e⟩⟩, ext := h.ext, size := h.size, slots := h.slots, boxes := h.boxes, mdom := h.mdom, toks := h.toks, tdom := h.tdom, owned := h.owned, owns := h.owns }
    have h2 := h1.putNC (o' := .deferred none) hD hne (fun d hd e => hnd.1 (List.mem_map.2 ⟨d, hd, e⟩)) rfl
    exact { below := h2.below, c0 := h2.c0, cnew := h2.cnew, cval := h2.cval, nc := ⟨h2.nc.k, fun l f e => by
      have := h.nc.l l f e
      exact ⟨this.1, by rw [World.putObj_heap_other (hne2 l f e)]; exact this.2.1, this.2.2⟩, h2.nc.d, h2.nc.nd, fun d hd => h.nc.dis d (by simp [hd])⟩, ext := h2.ext, size := h2.size, slots := h2.slots, boxes := h2.boxes, mdom := h2.mdom, toks := h2.toks, tdom := h2.tdom, owned := h2.owned, owns := h2.owns }

/-- A contract out of a weakest precondition. -/
theorem ctr_of_wp (hmix : P.follows .mixedOrders = true) {f : FuncId} {fn : Func} {args : List AV} {n : Nat} {rs : List ResultVar} {vc : VC} {res : AV}
    (hf : P.funcs[f]? = some fn) (hm : fmatch P fn n rs vc = true) (hn : args.length = n) (h : WP { P := P } vc (Fin P rs res) (start args)) : Ctr P f args res := by
  simp only [fmatch, Bool.and_eq_true, decide_eq_true_eq, beq_iff_eq] at hm
  obtain ⟨⟨⟨h1, h2⟩, h3⟩, h4⟩ := hm
  cases hb : fn.body with
  | none => simp [hb] at h1
  | some c =>
    simp only [hb] at h1
    refine ⟨by simp only [callable, hf, hb, h4]; rfl, fun C w vs hC hargs => callsIn_fr.1 (callsIn_of_wp_marks (F := Fr none) (n := 0) hf hb trivial ?_ rfl)⟩
    obtain ⟨ha1, ha2⟩ := hargs
    have hrel : Rel ⟨fn.ntmps, [], [], none⟩ C w (start args) { tmps := vs ++ Array.replicate (fn.ntmps - vs.size) undef, defers := [] } w C (fun _ => none) (fun _ => none) (fun _ => none) := by
      refine { below := .refl _ _, c0 := fun _ _ x => x, cnew := fun _ _ x => .inl x, cval := hC, nc := ⟨(fun q hq => by simp at hq), (fun _ _ e => by cases e), (fun d hd => by simp at hd), by simp, fun d hd => by simp at hd⟩, ext := fun p hp => by simp at hp, size := by simp; omega, slots := fun t => ?_, boxes := fun b bx hb => by simp [start, getB] at hb,
               mdom := fun b blk hb => by simp at hb, toks := fun k n hk => by simp [start, getT] at hk, tdom := fun k T hk => by simp at hk, owned := fun b x hx => by simp at hx, owns := fun b x hx => by simp at hx }
      simp only [start, get_args0, Nat.zero_le, if_true, Nat.sub_zero]
      cases hj : args[t]? with
      | none => trivial
      | some c =>
        have hlt : t < vs.size := by rw [ha1]; exact (List.getElem?_eq_some_iff.1 hj).1
        have := ha2 t c hj
        simp only [Option.getD_some]
        rw [Array.getElem?_append_left hlt]
        exact this.toRep
    refine wpIn_mono (wp_sound (E := { P := P }) hmix c vc false none [] fn.ntmps [] [] none none 0 _ (start args) _ w rfl ⟨fun _ => rfl, fun _ _ e => by cases e⟩ (fun _ => rfl) h1 h ⟨C, _, _, _, hrel⟩) fun e a' w' hq => ?_
    obtain ⟨e', σ, he, hq, C1, m, tk, own, hr⟩ := hq
    obtain ⟨C', own', hr', hCC⟩ := hr.frzL (outIds σ rs)
    have fin : noUnd (outs P (frzS (outIds σ rs) σ) rs) ∧ tup1 (outs P (frzS (outIds σ rs) σ) rs) = res →
        LeavesInM (Fr none) 0 P fn a'.tmps (fun e w' => ∃ v' C', e = .returned v' ∧ Below w.heap.size w w' ∧ CVal C' w' ∧ (∀ b o, C b o → C' b o) ∧ (∀ b o, C' b o → C b o ∨ w.heap.size ≤ b) ∧ Rep0 C' w' v' res) a'.defers .returning w' := by
      rintro ⟨hu, rfl⟩
      refine leaves_marks (fun w2 hr2 => ?_) a'.defers w' hr' (fun q hq => by simp at hq) (fun _ _ e => by cases e)
      obtain ⟨v, e1, e2⟩ := results_run hr2 (fn := fn) (rs := rs) (by rw [← rsOK_spec _ _ h3]) hu
      exact ⟨v, e1, v, C', rfl, hr2.below, hr2.cval, hr2.c0, hr2.cnew, e2⟩
    cases e <;> cases e' <;> first | exact he.elim | skip
    · exact fin hq
    · exact hq.elim
    · exact fin hq

/-- The end: a new list of numbers is returned, that nobody else holds. -/
def FinN (t : Nat) (xs : List Int) : Ex → AS → Prop
  | .exit _, _ => False
  | _, σ => ∃ b ag, get σ.fr t = .bsl b 0 1 xs.length ag ∧ getB σ.hp b = some ⟨xs.map .int, false⟩

theorem ctrN_of_wp (hmix : P.follows .mixedOrders = true) {f : FuncId} {fn : Func} {args : List AV} {n t : Nat} {vc : VC} {xs : List Int}
    (hf : P.funcs[f]? = some fn) (hm : fmatch P fn n [.tmp t] vc = true) (hn : args.length = n) (h : WP { P := P } vc (FinN t xs) (start args)) : CtrN P f args (.sl 1 (xs.map .int) .sh) := by
  simp only [fmatch, Bool.and_eq_true, decide_eq_true_eq, beq_iff_eq] at hm
  obtain ⟨⟨⟨h1, h2⟩, h3⟩, h4⟩ := hm
  cases hb : fn.body with
  | none => simp [hb] at h1
  | some c =>
    simp only [hb] at h1
    refine ⟨by simp only [callable, hf, hb, h4]; rfl, fun C w vs hC hargs => callsIn_fr.1 (callsIn_of_wp_marks (F := Fr none) (n := 0) hf hb trivial ?_ rfl)⟩
    obtain ⟨ha1, ha2⟩ := hargs
    have hrel : Rel ⟨fn.ntmps, [], [], none⟩ C w (start args) { tmps := vs ++ Array.replicate (fn.ntmps - vs.size) undef, defers := [] } w C (fun _ => none) (fun _ => none) (fun _ => none) := by
      refine { below := .refl _ _, c0 := fun _ _ x => x, cnew := fun _ _ x => .inl x, cval := hC, nc := ⟨(fun q hq => by simp at hq), (fun _ _ e => by cases e), (fun d hd => by simp at hd), by simp, fun d hd => by simp at hd⟩, ext := fun p hp => by simp at hp, size := by simp; omega, slots := fun t => ?_, boxes := fun b bx hb => by simp [start, getB] at hb,
               mdom := fun b blk hb => by simp at hb, toks := fun k n hk => by simp [start, getT] at hk, tdom := fun k T hk => by simp at hk, owned := fun b x hx => by simp at hx, owns := fun b x hx => by simp at hx }
      simp only [start, get_args0, Nat.zero_le, if_true, Nat.sub_zero]
      cases hj : args[t]? with
      | none => trivial
      | some c =>
        have hlt : t < vs.size := by rw [ha1]; exact (List.getElem?_eq_some_iff.1 hj).1
        have := ha2 t c hj
        simp only [Option.getD_some]
        rw [Array.getElem?_append_left hlt]
        exact this.toRep
    refine wpIn_mono (wp_sound (E := { P := P }) hmix c vc false none [] fn.ntmps [] [] none none 0 _ (start args) _ w rfl ⟨fun _ => rfl, fun _ _ e => by cases e⟩ (fun _ => rfl) h1 h ⟨C, _, _, _, hrel⟩) fun e a' w' hq => ?_
    obtain ⟨e', σ, he, hq, C1, m, tk, own, hr⟩ := hq
    have fin : (∃ b ag, get σ.fr t = .bsl b 0 1 xs.length ag ∧ getB σ.hp b = some ⟨xs.map .int, false⟩) →
        LeavesInM (Fr none) 0 P fn a'.tmps (fun e w' => ∃ v' C', e = .returned v' ∧ Below w.heap.size w w' ∧ CVal C' w' ∧ (∀ b o, C' b o → w.heap.size ≤ b) ∧ Rep0 C' w' v' (.sl 1 (xs.map .int) .sh)) a'.defers .returning w' := by
      rintro ⟨b, ag, hb1, hb2⟩
      refine leaves_marks (fun w2 hr2 => ?_) a'.defers w' hr (fun q hq => by simp at hq) (fun _ _ e => by cases e)
      have hs := hr2.slots t
      rw [hb1] at hs
      obtain ⟨blk, cap, hmb, hcap, hv⟩ := hs
      have hv' : (item a'.tmps (.tmp t)).run P w2 = .ok (.slice (some ⟨blk, 0, none⟩) xs.length cap) w2 := by
        have : a'.tmps.getD t undef = .slice (some ⟨blk, 0, none⟩) xs.length cap := by rw [← hv]; simp [Array.getD_eq_getD_getElem?]
        simp [item, this]
      refine ⟨_, results_one (by rw [← rsOK_spec _ _ h3]) hv', ?_⟩
      obtain ⟨blk2, hm2, hbox⟩ := hr2.boxes b _ hb2
      rw [hmb] at hm2
      injection hm2 with hm2
      subst hm2
      rcases hbox with ⟨e, _⟩ | ⟨_, hge, _, vs', ty, hheap, hle, hcells⟩
      · have e : xs = [] := by simpa using e
        subst e
        exact ⟨_, fun _ _ => False, rfl, hr2.below, fun _ _ x => x.elim, fun _ _ x => x.elim, .sl0 _ _ _⟩
      · refine ⟨_, fun b' _ => b' = blk, rfl, hr2.below, fun b' o e => ?_, fun b' o e => ?_, ?_⟩
        · subst e
          exact (Array.getElem?_eq_some_iff.1 hheap).1
        · subst e
          exact hge
        · have hcell : ∀ i, i < xs.length → w2.cell? ⟨blk, i, none⟩ = some (vs'[i]?.getD undef) := by
            intro i hi
            have hi2 : i < vs'.size := by have : (xs.map AV.int).length ≤ vs'.size := hle; rw [List.length_map] at this; omega
            simp [World.cell?, hheap, hi2]
          refine .sl blk 0 xs.length cap 1 _ (fun i _ => vs'[i]?.getD undef) (by simp) hcap (fun i e he => ?_) (fun i e he => ?_) (fun i j hi hj => rfl) (fun i j hi hj => ?_) (fun i e he j c hj => ?_) (fun i e he j c hj => ?_)
          · obtain ⟨x, _, rfl⟩ := List.mem_map.1 (List.mem_of_getElem? he)
            rfl
          · obtain ⟨x, _, rfl⟩ := List.mem_map.1 (List.mem_of_getElem? he)
            rfl
          · have : j = 0 := by omega
            subst this
            rw [Nat.zero_add, Nat.mul_one, Nat.add_zero]
            exact hcell i (by simpa using hi)
          · obtain ⟨x, _, rfl⟩ := List.mem_map.1 (List.mem_of_getElem? he)
            have := List.mem_of_getElem? hj
            simp [AV.cells] at this
            subst this
            rfl
          · have h0 := (hcells i e he).2.2
            obtain ⟨x, _, rfl⟩ := List.mem_map.1 (List.mem_of_getElem? he)
            have := List.mem_of_getElem? hj
            simp [AV.cells] at this
            subst this
            have h1 : Rep0 C1 w2 (vs'[i]?.getD undef) (.int x) := h0
            have hj0 : j = 0 := by
              have := (List.getElem?_eq_some_iff.1 hj).1
              simp [AV.cells] at this
              omega
            generalize vs'[i]?.getD undef = u at h1 ⊢
            cases h1
            exact .int _
    cases e <;> cases e' <;> first | exact he.elim | skip
    · exact fin hq
    · exact hq.elim
    · exact fin hq

/-- A result's box, as it is. -/
def outW (P : Program) (σ : AS) (t : Nat) (ty : TypeId) : Option AV :=
  match get σ.fr t with
  | .ptr b 0 => match getB σ.hp b with
    | some bx => match aggOf P ty with
      | some true => if szOf P ty = some bx.cells.length then some (.aggw (bx.cells.map AV.shr)) else none
      | some false => match bx.cells with
        | [x] => some x
        | _ => none
      | none => none
    | none => none
  | _ => none

theorem outW_run (h : Rel N C0 w0 σ a w C m tk own) {t : Nat} {ty : TypeId} {r : AV} (ho : outW P σ t ty = some r) :
    ∃ v, (item a.tmps (.cell t ty)).run P w = .ok v w ∧ Rep C w m tk v r := by
  have hs := h.slots t
  unfold outW at ho
  revert ho
  generalize get σ.fr t = av at hs ⊢
  cases av with
  | ptr b off =>
    cases off with
    | succ o => simp
    | zero =>
      simp only
      obtain ⟨blk, hm1, hv⟩ := hs
      cases hg : getB σ.hp b with
      | none => simp
      | some bx =>
        simp only
        cases ha : aggOf P ty with
        | none => simp
        | some g =>
          cases g with
          | true =>
            simp only
            by_cases hs : szOf P ty = some bx.cells.length
            · rw [if_pos hs]
              intro ho
              injection ho with ho
              subst ho
              have hcell : ∀ j, j < bx.cells.length → w.cell? ((⟨blk, 0, none⟩ : Addr).add j) = some ((w.cell? ⟨blk, j, none⟩).getD undef) := by
                intro j hj
                obtain ⟨_, v, hv, _⟩ := box_cell h hg hm1 (j := j) (av := bx.cells[j]) (by simp [hj])
                rw [add_none, Nat.zero_add, hv]
                rfl
              have hl := run_loadCells (P := P) w ⟨blk, 0, none⟩ bx.cells.length (fun j => (w.cell? ⟨blk, j, none⟩).getD undef) hcell
              refine ⟨_, by simp [item, hv, asAddr, loadVar, run_aggOf ha, run_szOf hs, hl]; rfl, ?_⟩
              refine ⟨_, rfl, by simp, fun j c hj => ?_⟩
              rw [List.getElem?_map] at hj
              obtain ⟨c0, hj0, rfl⟩ := Option.map_eq_some_iff.1 hj
              have hlt := (List.getElem?_eq_some_iff.1 hj0).1
              obtain ⟨d1, v, d2, d3, d4⟩ := box_cell h hg hm1 hj0
              have e : (((List.range bx.cells.length).map fun j => (w.cell? ⟨blk, j, none⟩).getD undef).toArray)[j]?.getD undef = v := by simp [hlt, d2]
              rw [e]
              exact ⟨shr_isCell d1, d3, rep_shr d4 d1 d3⟩
            · rw [if_neg hs]
              simp
          | false =>
            simp only
            split
            · rename_i x hx
              intro ho
              injection ho with ho
              subst ho
              obtain ⟨d1, v, d2, d3, d4⟩ := box_cell h hg hm1 (j := 0) (av := x) (by rw [hx]; rfl)
              exact ⟨v, by simp [item, hv, asAddr, loadVar, run_aggOf ha, d2], d4⟩
            · simp
  | _ => simp

/-- The results of a call on the caller's memory: a slot or a box as it is; else all frozen. -/
def FinI (P : Program) (rs : List ResultVar) (Q : AV → HpL → TkL → Option Ex → Prop) : Ex → AS → Prop
  | .exit _, _ => False
  | _, σ => match rs with
    | [.tmp t] => Q (get σ.fr t) σ.hp σ.tk σ.pd
    | [.cell t ty] => match outW P σ t ty with
      | some r => Q r σ.hp σ.tk σ.pd
      | none => False
    | rs => noUnd (outs P (frzS (outIds σ rs) σ) rs) ∧ Q (tup1 (outs P (frzS (outIds σ rs) σ) rs)) (frzS (outIds σ rs) σ).hp σ.tk σ.pd

/-- A call on the caller's memory, out of a weakest precondition. -/
theorem csem_of_wp {E : Env} (hmix : E.P.follows .mixedOrders = true) {f : FuncId} {fn : Func} {args : List AV} {n : Nat} {rs : List ResultVar} {vc : VC} {hp : HpL} {tk : TkL} {pd : Option Ex} {Q : AV → HpL → TkL → Option Ex → Prop}
    (hf : E.P.funcs[f]? = some fn) (hm : fmatch E.P fn n rs vc = true) (hn : args.length = n) (hrd : E.rd = false) (h : WP E vc (FinI E.P rs Q) ⟨args0 0 args, hp, tk, pd⟩) : CSem E f args hp tk pd Q := by
  simp only [fmatch, Bool.and_eq_true, decide_eq_true_eq, beq_iff_eq] at hm
  obtain ⟨⟨⟨h1, h2⟩, h3⟩, h4⟩ := hm
  cases hb : fn.body with
  | none => simp [hb] at h1
  | some c =>
    simp only [hb] at h1
    refine ⟨by simp only [callable, hf, hb, h4]; rfl, fun C0 w0 X K L w vs hX hY hsz hR => callsIn_fr.1 (callsIn_of_wp_marks (F := Fr none) (n := 0) hf hb trivial ?_ rfl)⟩
    obtain ⟨C, m, tkc, own, hrel0⟩ := hR
    have hrel : Rel ⟨fn.ntmps, X, K, L⟩ C0 w0 ⟨args0 0 args, hp, tk, pd⟩ { tmps := vs ++ Array.replicate (fn.ntmps - vs.size) undef, defers := [] } w C m tkc own := by
      refine hrel0.pop (fun t => ?_) (fun p hp => by simp [hp]) (fun q hq => hq) (fun d hd => by simp at hd) (by simp) (fun d hd => by simp at hd) (by simp; omega)
      have hx := hrel0.ext (vs, args0 0 args) (by simp) t
      rcases Nat.lt_or_ge t vs.size with hl | hl
      · rw [Array.getElem?_append_left hl]; exact hx
      · rw [get_args, List.getElem?_eq_none (by omega)]
        exact trivial
    obtain ⟨EP, EX, ET, Erd⟩ := E
    simp only at hrd hf h1 h hY hX ⊢
    subst hrd
    refine wpIn_mono (wp_sound (E := ⟨EP, EX, ET, false⟩) hmix c vc false ET EX fn.ntmps X K L none 0 _ _ _ w hX hY (fun _ => rfl) h1 h ⟨C, _, _, _, hrel⟩) fun e a' w' hq => ?_
    obtain ⟨e', σ, he, hq, C1, m1, tk1, own1, hr⟩ := hq
    -- what stands when the function is left
    have hwn : ∀ {σ' : AS} {w2 : World} {C2 : Nat → Nat → Prop} {m2 : Nat → Option Nat} {tk2 : Nat → Option TK} {own2 : Nat → Option (Nat ⊕ Nat)} (hr2 : Rel ⟨fn.ntmps, X, K, L⟩ C0 w0 σ' ⟨a'.tmps, []⟩ w2 C2 m2 tk2 own2) {v : Value} {r : AV}, Rep C2 w2 m2 tk2 v r →
        R ⟨0, (#[v], [(0, r)]) :: X, K, L⟩ C0 w0 ⟨[], σ'.hp, σ'.tk, σ'.pd⟩ a0 w2 := by
      intro σ' w2 C2 m2 tk2 own2 hr2 v r hv
      have h5 := hr2.push.pop (X := X) (KK := K) (tmps := #[]) (fr := []) (ds := []) (fun t => trivial) (fun p hp => by simp [hp]) (fun q hq => by simpa using hq) (fun d hd => by simp at hd) (by simp) (fun d hd => by simp at hd) rfl
      refine ⟨C2, m2, tk2, own2, h5.addX (fun t => ?_)⟩
      cases t with
      | zero => simpa [get] using hv
      | succ t => simp only [get]; rw [if_neg (by omega)]; exact trivial
    have lv : ∀ {σ' : AS} {w2 : World} {C2 : Nat → Nat → Prop} {m2 : Nat → Option Nat} {tk2 : Nat → Option TK} {own2 : Nat → Option (Nat ⊕ Nat)} (hr2 : Rel ⟨fn.ntmps, X, K, L⟩ C0 w0 σ' a' w2 C2 m2 tk2 own2) {r : AV}, Q r σ'.hp σ'.tk σ'.pd →
        (∀ w3, Rel ⟨fn.ntmps, X, K, L⟩ C0 w0 σ' ⟨a'.tmps, []⟩ w3 C2 m2 tk2 own2 → ∃ v, (results fn a'.tmps).run EP w3 = .ok v w3 ∧ Rep C2 w3 m2 tk2 v r) →
        LeavesInM (Fr none) 0 EP fn a'.tmps (fun e w' => ∃ v r hp' tk' pd', e = .returned v ∧ Q r hp' tk' pd' ∧ R ⟨0, (#[v], [(0, r)]) :: X, K, L⟩ C0 w0 ⟨[], hp', tk', pd'⟩ a0 w') a'.defers .returning w2 := by
      intro σ' w2 C2 m2 tk2 own2 hr2 r hq hres
      refine leaves_marks (fun w3 hr3 => ?_) a'.defers w2 hr2 (fun q hq hm => ?_) (fun l f e hm => ?_)
      · obtain ⟨v, e1, e2⟩ := hres w3 hr3
        exact ⟨v, e1, v, r, _, _, _, rfl, hq, hwn hr3 e2⟩
      · obtain ⟨d, hd, e⟩ := List.mem_map.1 hm
        exact (hr2.nc.dis d hd).1 q hq e.symm
      · obtain ⟨d, hd, e'⟩ := List.mem_map.1 hm
        exact (hr2.nc.dis d hd).2 l f e e'.symm
    have gen : noUnd (outs EP (frzS (outIds σ rs) σ) rs) ∧ Q (tup1 (outs EP (frzS (outIds σ rs) σ) rs)) (frzS (outIds σ rs) σ).hp σ.tk σ.pd → LeavesInM (Fr none) 0 EP fn a'.tmps (fun e w' => ∃ v r hp' tk' pd', e = .returned v ∧ Q r hp' tk' pd' ∧ R ⟨0, (#[v], [(0, r)]) :: X, K, L⟩ C0 w0 ⟨[], hp', tk', pd'⟩ a0 w') a'.defers .returning w' := by
      rintro ⟨hu, hq⟩
      obtain ⟨C', own', hr', hCC⟩ := hr.frzL (outIds σ rs)
      refine lv hr' hq fun w3 hr3 => ?_
      obtain ⟨v, e1, e2⟩ := results_run hr3 (fn := fn) (rs := rs) (by rw [← rsOK_spec _ _ h3]) hu
      exact ⟨v, e1, e2.toRep⟩
    have one : ∀ {t : Nat}, rs = [.tmp t] → Q (get σ.fr t) σ.hp σ.tk σ.pd → LeavesInM (Fr none) 0 EP fn a'.tmps (fun e w' => ∃ v r hp' tk' pd', e = .returned v ∧ Q r hp' tk' pd' ∧ R ⟨0, (#[v], [(0, r)]) :: X, K, L⟩ C0 w0 ⟨[], hp', tk', pd'⟩ a0 w') a'.defers .returning w' := by
      intro t hrs hq
      refine lv hr hq fun w3 hr3 => ⟨a'.tmps[t]?.getD undef, ?_, hr3.slots t⟩
      have hl := rsOK_spec _ _ h3
      rw [hrs] at hl
      have hl' : fn.results = #[.tmp t] := by rw [← Array.toArray_toList (xs := fn.results), hl]
      simp [results, hl']
    have oneC : ∀ {t : Nat} {ty : TypeId} {r : AV}, rs = [.cell t ty] → outW EP σ t ty = some r → Q r σ.hp σ.tk σ.pd → LeavesInM (Fr none) 0 EP fn a'.tmps (fun e w' => ∃ v r hp' tk' pd', e = .returned v ∧ Q r hp' tk' pd' ∧ R ⟨0, (#[v], [(0, r)]) :: X, K, L⟩ C0 w0 ⟨[], hp', tk', pd'⟩ a0 w') a'.defers .returning w' := by
      intro t ty r hrs ho hq
      refine lv hr hq fun w3 hr3 => ?_
      obtain ⟨v, e1, e2⟩ := outW_run hr3 ho
      refine ⟨v, ?_, e2⟩
      have hl := rsOK_spec _ _ h3
      rw [hrs] at hl
      have hl' : fn.results = #[.cell t ty] := by rw [← Array.toArray_toList (xs := fn.results), hl]
      exact results_one hl' e1
    have fin : FinI EP rs Q .norm σ → LeavesInM (Fr none) 0 EP fn a'.tmps (fun e w' => ∃ v r hp' tk' pd', e = .returned v ∧ Q r hp' tk' pd' ∧ R ⟨0, (#[v], [(0, r)]) :: X, K, L⟩ C0 w0 ⟨[], hp', tk', pd'⟩ a0 w') a'.defers .returning w' := by
      intro hf
      simp only [FinI] at hf
      split at hf
      · rename_i t
        exact one rfl hf
      · split at hf
        · rename_i ho
          exact oneC rfl ho hf
        · exact hf.elim
      · exact gen hf
    cases e <;> cases e' <;> first | exact he.elim | skip
    · exact fin hq
    · exact hq.elim
    · exact fin hq

end
end Go.V

/- The abstract machine V, part 20: the rules by which a weakest precondition is worked out. -/
set_option linter.unusedSimpArgs false
set_option linter.unusedVariables false
set_option linter.unnecessarySimpa false
namespace Go.V
open Go Go.RowKit

section
variable {P : Env} {Q : Ex → AS → Prop} {σ : AS} {K next : AS → Prop} {d : Option Nat}

/-- A branch. -/
def WCond (P : Env) (v : AV) (a b : VC) (Q : Ex → AS → Prop) (σ : AS) : Prop :=
  match v with
  | .bool true => WP P a Q σ
  | .bool false => WP P b Q σ
  | _ => False

theorem wcond_true {a b : VC} : WCond P (.bool true) a b Q σ = WP P a Q σ := rfl
theorem wcond_false {a b : VC} : WCond P (.bool false) a b Q σ = WP P b Q σ := rfl
theorem wcond_dec {c : Prop} [Decidable c] {a b : VC} (h1 : c → WP P a Q σ) (h2 : ¬ c → WP P b Q σ) : WCond P (.bool (decide c)) a b Q σ := by
  by_cases h : c
  · simp only [h, decide_true]; exact h1 h
  · simp only [h, decide_false]; exact h2 h
theorem wcond_bool {c : Bool} {a b : VC} (h1 : c = true → WP P a Q σ) (h2 : c = false → WP P b Q σ) : WCond P (.bool c) a b Q σ := by
  cases c
  · exact h2 rfl
  · exact h1 rfl

theorem wp_skip' : WP P .skip Q σ = Q .norm σ := rfl
theorem wp_ret' : WP P .ret Q σ = Q .ret σ := rfl
theorem wp_exit' {i : Nat} : WP P (.exit i) Q σ = Q (.exit i) σ := rfl
theorem wp_ops' {dr : Bool} {l : List VOper} {ks : Option (List Nat)} : WP P (.ops dr l ks) Q σ = WOps P dr l (Kp ks (Q .norm)) σ := rfl
theorem wp_seq' {a b : VC} : WP P (.seq a b) Q σ = WP P a (Then (WP P b Q) Q) σ := rfl
theorem wp_cond' {x : VO} {a b : VC} : WP P (.cond x a b) Q σ = WCond P (ev σ x) a b Q σ := rfl
theorem wp_block' {i : Nat} {c : VC} : WP P (.block i c) Q σ = WP P c (Blk i Q) σ := rfl
theorem wp_scope' {Pr : Program} {X : List FrL} {T : Option (Nat × YT)} {c : VC} : WP ⟨Pr, X, T, false⟩ (.scope c) Q σ = WP ⟨Pr, X, T, false⟩ c Q σ := by
  show (false = false ∧ _) = _
  simp only [true_and]
  rfl
theorem then_norm {n : AS → Prop} : Then n Q .norm σ = n σ := rfl
theorem then_exit {n : AS → Prop} {i : Nat} : Then n Q (.exit i) σ = Q (.exit i) σ := rfl
theorem then_ret {n : AS → Prop} : Then n Q .ret σ = Q .ret σ := rfl
theorem blk_norm {i : Nat} : Blk i Q .norm σ = Q .norm σ := rfl
theorem blk_ret {i : Nat} : Blk i Q .ret σ = Q .ret σ := rfl
theorem blk_exit {i j : Nat} : Blk i Q (.exit j) σ = if j = i then Q .norm σ else Q (.exit j) σ := by
  simp only [Blk]
  by_cases h : j = i <;> simp [h]
theorem lp_exit {ι : Type} {X : List FrL} {st : ι → AS} {I : ι → Prop} {μ : ι → Nat} {x : ι} {i : Nat} : Lp X st I μ x Q (.exit i) σ = Q (.exit i) σ := rfl
theorem lp_ret {ι : Type} {X : List FrL} {st : ι → AS} {I : ι → Prop} {μ : ι → Nat} {x : ι} : Lp X st I μ x Q .ret σ = Q .ret σ := rfl
theorem kp_some {l : List Nat} {fr : List (Nat × AV)} {hp : List (Nat × BX)} {tk : List (Nat × Nat)} {pd : Option Ex} : Kp (some l) K ⟨fr, hp, tk, pd⟩ = K ⟨keepL fr l, hp, tk, pd⟩ := rfl
theorem keepL_nil {fr : List (Nat × AV)} : keepL fr [] = [] := rfl
theorem keepL_cons {fr : List (Nat × AV)} {t : Nat} {r : List Nat} : keepL fr (t :: r) = (t, get fr t) :: keepL fr r := rfl
theorem get_cons {s t : Nat} {v : AV} {r : List (Nat × AV)} : get ((s, v) :: r) t = if s = t then v else get r t := rfl
theorem get_nil {t : Nat} : get [] t = .und := rfl
theorem getB_cons {s t : Nat} {v : BX} {r : List (Nat × BX)} : getB ((s, v) :: r) t = if s = t then some v else getB r t := rfl
theorem getB_nil {t : Nat} : getB [] t = none := rfl
theorem getT_cons {s t : Nat} {v : Nat} {r : List (Nat × Nat)} : getT ((s, v) :: r) t = if s = t then some v else getT r t := rfl
theorem getT_nil {t : Nat} : getT [] t = none := rfl
theorem put_some {d : Nat} {v : AV} {fr : List (Nat × AV)} {hp : List (Nat × BX)} {tk : List (Nat × Nat)} {pd : Option Ex} : put (some d) v ⟨fr, hp, tk, pd⟩ = ⟨(d, v) :: fr, hp, tk, pd⟩ := rfl
theorem put_none {v : AV} : put none v σ = σ := rfl
theorem ev_t {n : Nat} {fr : List (Nat × AV)} {hp : List (Nat × BX)} {tk : List (Nat × Nat)} {pd : Option Ex} : ev ⟨fr, hp, tk, pd⟩ (.t n) = get fr n := rfl
theorem ev_k {v : AV} : ev σ (.k v) = v := rfl
theorem wops_nil {dr : Bool} : WOps P dr [] K σ = K σ := rfl
theorem wops_cons {dr : Bool} {d : Option Nat} {op : VOp} {r : List VOper} : WOps P dr (⟨d, op, none⟩ :: r) K σ = WD P dr d op (WOps P dr r K) σ := rfl
theorem wops_consg {dr : Bool} {d : Option Nat} {op : VOp} {r : List VOper} {t : Nat} {want : Bool} : WOps P dr (⟨d, op, some (t, want)⟩ :: r) K σ = WGd P dr (get σ.fr t) want d op (WOps P dr r K) σ := rfl
theorem wgd_tt {dr : Bool} {op : VOp} : WGd P dr (.bool true) true d op next σ = WD P dr d op next σ := rfl
theorem wgd_ff {dr : Bool} {op : VOp} : WGd P dr (.bool false) false d op next σ = WD P dr d op next σ := rfl
theorem wgd_tf {dr : Bool} {op : VOp} : WGd P dr (.bool true) false d op next σ = next (put d .nul σ) := rfl
theorem wgd_ft {dr : Bool} {op : VOp} : WGd P dr (.bool false) true d op next σ = next (put d .nul σ) := rfl
theorem wgd_nul {dr w : Bool} {op : VOp} : WGd P dr .nul w d op next σ = next (put d .nul σ) := rfl
theorem WGd_bool {dr w b : Bool} {op : VOp} (h1 : b = w → WD P dr d op next σ) (h2 : b = (!w) → next (put d .nul σ)) : WGd P dr (.bool b) w d op next σ := by
  cases b <;> cases w
  · exact h1 rfl
  · exact h2 rfl
  · exact h2 rfl
  · exact h1 rfl
theorem wd_false {op : VOp} : WD P false d op next σ = W1 P d op next σ := rfl
theorem wd_true {op : VOp} : WD P true d op next σ = (dcond op σ ∧ W1 P d op next σ) := rfl

theorem w1_mov {x : VO} : W1 P d (.mov x) next σ = next (put d (ev σ x) σ) := by simp [W1, vcond, vval, vnext]
theorem w1_nils {k sz : Nat} {fr : List (Nat × AV)} {hp : List (Nat × BX)} {tk : List (Nat × Nat)} {pd : Option Ex} :
    W1 P d (.nils k sz) next ⟨fr, hp, tk, pd⟩ = (getT tk k = none ∧ next (put d (.sl sz [] (.own k)) ⟨fr, hp, (k, 0) :: tk, pd⟩)) := rfl
theorem w1_alloc {b : Nat} {z : List AV} {fr : List (Nat × AV)} {hp : List (Nat × BX)} {tk : List (Nat × Nat)} {pd : Option Ex} :
    W1 P d (.alloc b z) next ⟨fr, hp, tk, pd⟩ = (getB hp b = none ∧ next (put d (.ptr b 0) ⟨fr, (b, ⟨z, false⟩) :: hp, tk, pd⟩)) := rfl
theorem w1_box {b n : Nat} {x : VO} {fr : List (Nat × AV)} {hp : List (Nat × BX)} {tk : List (Nat × Nat)} {pd : Option Ex} :
    W1 P d (.box b n x) next ⟨fr, hp, tk, pd⟩ = ((getB hp b = none ∧ (ev ⟨fr, hp, tk, pd⟩ x).okv = true ∧ (ev ⟨fr, hp, tk, pd⟩ x).cells.length = n) ∧ next (put d (.ptr b 0) ⟨fr, (b, ⟨(ev ⟨fr, hp, tk, pd⟩ x).cells, false⟩) :: hp, tk, pd⟩)) := rfl

def WBin (k : BK) (x y : AV) (d : Option Nat) (next : AS → Prop) (σ : AS) : Prop := k.cond x y ∧ next (put d (k.val x y) σ)
theorem w1_bin {k : BK} {x y : VO} : W1 P d (.bin k x y) next σ = WBin k (ev σ x) (ev σ y) d next σ := rfl
section
variable {a b : Int} {p q : Bool}
theorem wbin_add : WBin .add (.int a) (.int b) d next σ = next (put d (.int (w64 (a + b))) σ) := by simp [WBin, BK.cond, BK.val]
theorem wbin_sub : WBin .sub (.int a) (.int b) d next σ = next (put d (.int (w64 (a - b))) σ) := by simp [WBin, BK.cond, BK.val]
theorem wbin_mul : WBin .mul (.int a) (.int b) d next σ = next (put d (.int (w64 (a * b))) σ) := by simp [WBin, BK.cond, BK.val]
theorem wbin_quo (h : b ≠ 0) : WBin .quo (.int a) (.int b) d next σ = next (put d (.int (w64 (a.tdiv b))) σ) := by simp [WBin, BK.cond, BK.val, h]
theorem wbin_rem (h : b ≠ 0) : WBin .rem (.int a) (.int b) d next σ = next (put d (.int (a.tmod b)) σ) := by simp [WBin, BK.cond, BK.val, h]
theorem wbin_lss : WBin .lss (.int a) (.int b) d next σ = next (put d (.bool (decide (a < b))) σ) := by simp [WBin, BK.cond, BK.val]
theorem wbin_leq : WBin .leq (.int a) (.int b) d next σ = next (put d (.bool (decide (a ≤ b))) σ) := by simp [WBin, BK.cond, BK.val]
theorem wbin_gtr : WBin .gtr (.int a) (.int b) d next σ = next (put d (.bool (decide (b < a))) σ) := by simp [WBin, BK.cond, BK.val]
theorem wbin_geq : WBin .geq (.int a) (.int b) d next σ = next (put d (.bool (decide (b ≤ a))) σ) := by simp [WBin, BK.cond, BK.val]
theorem wbin_eql : WBin .eql (.int a) (.int b) d next σ = next (put d (.bool (decide (a = b))) σ) := by
  have : (a == b) = decide (a = b) := by by_cases h : a = b <;> simp [h]
  simp only [WBin, BK.cond, BK.val, true_and, this]
theorem wbin_neq : WBin .neq (.int a) (.int b) d next σ = next (put d (.bool (decide (¬ a = b))) σ) := by
  have : (a != b) = decide (¬ a = b) := by by_cases h : a = b <;> simp [h]
  simp only [WBin, BK.cond, BK.val, true_and, this]
theorem wbin_beq : WBin .beq (.bool p) (.bool q) d next σ = next (put d (.bool (p == q)) σ) := by simp [WBin, BK.cond, BK.val]
theorem wbin_seq2 {c e : Int} : WBin (.seq 2) (.agg [.int a, .int b]) (.agg [.int c, .int e]) d next σ = next (put d (.bool (decide (a = c ∧ b = e))) σ) := by
  have : sameCells [.int a, .int b] [.int c, .int e] = decide (a = c ∧ b = e) := by
    simp only [sameCells]
    by_cases h : a = c <;> by_cases h' : b = e <;> simp [h, h']
  simp [WBin, BK.cond, BK.val, AV.isInt, this]
theorem wbin_sne2 {c e : Int} : WBin (.sne 2) (.agg [.int a, .int b]) (.agg [.int c, .int e]) d next σ = next (put d (.bool (decide (¬ (a = c ∧ b = e)))) σ) := by
  have : sameCells [.int a, .int b] [.int c, .int e] = decide (a = c ∧ b = e) := by
    simp only [sameCells]
    by_cases h : a = c <;> by_cases h' : b = e <;> simp [h, h']
  have e2 : (!decide (a = c ∧ b = e)) = decide (¬ (a = c ∧ b = e)) := by by_cases h : a = c ∧ b = e <;> simp [h]
  simp only [WBin, BK.cond, BK.val, this, e2]
  simp [AV.isInt]
theorem wbin_bne : WBin .bne (.bool p) (.bool q) d next σ = next (put d (.bool (!(p == q))) σ) := by simp [WBin, BK.cond, BK.val]
end

def WNot (x : AV) (d : Option Nat) (next : AS → Prop) (σ : AS) : Prop := x.isBool ∧ next (put d (.bool (!x.toBool)) σ)
theorem w1_not {x : VO} : W1 P d (.not x) next σ = WNot (ev σ x) d next σ := rfl
theorem wnot {p : Bool} : WNot (.bool p) d next σ = next (put d (.bool (!p)) σ) := by simp [WNot, AV.isBool, AV.toBool]
def WNeg (x : AV) (d : Option Nat) (next : AS → Prop) (σ : AS) : Prop := x.isInt ∧ next (put d (.int (w64 (0 - x.toInt))) σ)
theorem w1_neg {x : VO} : W1 P d (.neg x) next σ = WNeg (ev σ x) d next σ := rfl
theorem wneg {a : Int} : WNeg (.int a) d next σ = next (put d (.int (w64 (0 - a))) σ) := by simp [WNeg, AV.isInt, AV.toInt]
def WPick (c x y : AV) (d : Option Nat) (next : AS → Prop) (σ : AS) : Prop := c.isBool ∧ next (put d (if c.toBool then x else y) σ)
theorem w1_pick {c x y : VO} : W1 P d (.pick c x y) next σ = WPick (ev σ c) (ev σ x) (ev σ y) d next σ := rfl
theorem wpick {p : Bool} {x y : AV} : WPick (.bool p) x y d next σ = next (put d (if p then x else y) σ) := by cases p <;> simp [WPick, AV.isBool, AV.toBool]
def WLen (x : AV) (d : Option Nat) (next : AS → Prop) (σ : AS) : Prop :=
  match x with
  | .sl _ es _ => next (put d (.int es.length) σ)
  | .bsl _ _ _ n _ => next (put d (.int n) σ)
  | .gsl _ _ _ _ n _ => next (put d (.int n) σ)
  | _ => False
theorem w1_len {x : VO} : W1 P d (.len x) next σ = WLen (ev σ x) d next σ := by
  simp only [W1, vcond, vval, vnext]
  generalize ev σ x = v
  cases v <;> simp [WLen]
theorem wlen_sl {sz : Nat} {es : List AV} {m : VM} : WLen (.sl sz es m) d next σ = next (put d (.int es.length) σ) := rfl
theorem wlen_bsl {b off sz n : Nat} {ag : Bool} : WLen (.bsl b off sz n ag) d next σ = next (put d (.int n) σ) := rfl
theorem wlen_gsl {b i v sz n : Nat} {ag : Bool} : WLen (.gsl b i v sz n ag) d next σ = next (put d (.int n) σ) := rfl
def WMin (x y : AV) (d : Option Nat) (next : AS → Prop) (σ : AS) : Prop := (x.isInt ∧ y.isInt) ∧ next (put d (.int (if y.toInt < x.toInt then y.toInt else x.toInt)) σ)
theorem w1_min {x y : VO} : W1 P d (.min x y) next σ = WMin (ev σ x) (ev σ y) d next σ := rfl
theorem wmin {a b : Int} : WMin (.int a) (.int b) d next σ = next (put d (.int (min a b)) σ) := by
  have : (if b < a then b else a) = min a b := by omega
  rw [← this]
  simp only [WMin, AV.isInt, AV.toInt, and_self, true_and]
  rfl
def WMax (x y : AV) (d : Option Nat) (next : AS → Prop) (σ : AS) : Prop := (x.isInt ∧ y.isInt) ∧ next (put d (.int (if y.toInt > x.toInt then y.toInt else x.toInt)) σ)
theorem w1_max {x y : VO} : W1 P d (.max x y) next σ = WMax (ev σ x) (ev σ y) d next σ := rfl
theorem wmax {a b : Int} : WMax (.int a) (.int b) d next σ = next (put d (.int (max a b)) σ) := by
  have : (if b > a then b else a) = max a b := by omega
  rw [← this]
  simp only [WMax, AV.isInt, AV.toInt, and_self, true_and]
  rfl
def WMax3 (x y z : AV) (d : Option Nat) (next : AS → Prop) (σ : AS) : Prop := (x.isInt ∧ y.isInt ∧ z.isInt) ∧ next (put d (.int (imax (imax x.toInt y.toInt) z.toInt)) σ)
theorem w1_max3 {x y z : VO} : W1 P d (.max3 x y z) next σ = WMax3 (ev σ x) (ev σ y) (ev σ z) d next σ := rfl
theorem wmax3 {a b c : Int} : WMax3 (.int a) (.int b) (.int c) d next σ = next (put d (.int (max (max a b) c)) σ) := by
  have : imax (imax a b) c = max (max a b) c := by unfold imax; repeat' split
                                                   all_goals omega
  rw [← this]
  simp only [WMax3, AV.isInt, AV.toInt, and_self, true_and]
def WExt (x : AV) (i : Nat) (d : Option Nat) (next : AS → Prop) (σ : AS) : Prop :=
  match x with
  | .tup vs => i < vs.length ∧ next (put d (vs[i]?.getD .und) σ)
  | _ => False
theorem w1_ext {x : VO} {i : Nat} : W1 P d (.ext x i) next σ = WExt (ev σ x) i d next σ := by
  simp only [W1, vcond, vval, vnext]
  generalize ev σ x = v
  cases v <;> simp [WExt]
theorem wext_0 {x : AV} {r : List AV} : WExt (.tup (x :: r)) 0 d next σ = next (put d x σ) := by simp [WExt]
theorem wext_1 {x y : AV} {r : List AV} : WExt (.tup (x :: y :: r)) 1 d next σ = next (put d y σ) := by simp [WExt]
theorem wext_2 {x y z : AV} {r : List AV} : WExt (.tup (x :: y :: z :: r)) 2 d next σ = next (put d z σ) := by simp [WExt]
theorem wext_3 {x y z u : AV} {r : List AV} : WExt (.tup (x :: y :: z :: u :: r)) 3 d next σ = next (put d u σ) := by simp [WExt]
def WFld (off : Nat) (x : AV) (d : Option Nat) (next : AS → Prop) (σ : AS) : Prop :=
  match x with
  | .ptr b o => next (put d (.ptr b (o + off)) σ)
  | .ref sz es i o => next (put d (.ref sz es i (o + off)) σ)
  | _ => False
theorem w1_fld {off : Nat} {x : VO} : W1 P d (.fld off x) next σ = WFld off (ev σ x) d next σ := by
  simp only [W1, vcond, vval, vnext]
  generalize ev σ x = v
  cases v <;> simp [WFld]
theorem wfld_ptr {off b o : Nat} : WFld off (.ptr b o) d next σ = next (put d (.ptr b (o + off)) σ) := rfl
theorem wfld_ref {off sz i o : Nat} {es : List AV} : WFld off (.ref sz es i o) d next σ = next (put d (.ref sz es i (o + off)) σ) := rfl
def WNilck (x : AV) (d : Option Nat) (next : AS → Prop) (σ : AS) : Prop :=
  match x with
  | .ptr _ _ | .ref _ _ _ _ | .clo _ _ _ => next (put d x σ)
  | _ => False
theorem w1_nilck {x : VO} : W1 P d (.nilck x) next σ = WNilck (ev σ x) d next σ := by
  simp only [W1, vcond, vval, vnext]
  generalize ev σ x = v
  cases v <;> simp [WNilck]
theorem wnilck_ptr {b o : Nat} : WNilck (.ptr b o) d next σ = next (put d (.ptr b o) σ) := rfl
theorem wnilck_ref {sz i o : Nat} {es : List AV} : WNilck (.ref sz es i o) d next σ = next (put d (.ref sz es i o) σ) := rfl
theorem wnilck_clo {f : FuncId} {x y : List AV} : WNilck (.clo f x y) d next σ = next (put d (.clo f x y) σ) := rfl
def WNile (x : AV) (d : Option Nat) (next : AS → Prop) (σ : AS) : Prop :=
  match x with
  | .sl _ (_ :: _) _ => next (put d (.bool false) σ)
  | _ => False
theorem w1_nile {x : VO} : W1 P d (.nile x) next σ = WNile (ev σ x) d next σ := by
  simp only [W1, vcond, vval, vnext]
  generalize ev σ x = v
  unfold WNile
  split <;> simp
theorem wnile_ne {sz : Nat} {es : List AV} {md : VM} (h : 0 < es.length) : WNile (.sl sz es md) d next σ = next (put d (.bool false) σ) := by
  cases es with
  | nil => simp at h
  | cons e r => rfl
def WIdx (sz : Nat) (x i : AV) (d : Option Nat) (next : AS → Prop) (σ : AS) : Prop :=
  match x, i with
  | .sl sz' es _, .int n => (sz' = sz ∧ 0 ≤ n ∧ n < es.length) ∧ next (put d (.ref sz' es n.toNat 0) σ)
  | .bsl b off sz' k _, .int n => (sz' = sz ∧ 0 ≤ n ∧ n < k) ∧ next (put d (.ptr b (off + n.toNat * sz')) σ)
  | .gsl b i v sz' k _, .int n => (sz' = sz ∧ 0 ≤ n ∧ n < k) ∧ next (put d (.ptr (V.K b i v) (n.toNat * sz')) σ)
  | _, _ => False
theorem w1_idx {sz : Nat} {x i : VO} : W1 P d (.idx sz x i) next σ = WIdx sz (ev σ x) (ev σ i) d next σ := by
  simp only [W1, vcond, vval, vnext]
  generalize ev σ x = u
  generalize ev σ i = v
  cases u <;> cases v <;> simp [WIdx]
theorem widx_sl {sz : Nat} {es : List AV} {m : VM} {n : Int} (h : 0 ≤ n ∧ n < es.length) : WIdx sz (.sl sz es m) (.int n) d next σ = next (put d (.ref sz es n.toNat 0) σ) := by simp [WIdx, h]
theorem widx_bsl {sz b off k : Nat} {ag : Bool} {n : Int} (h : 0 ≤ n ∧ n < k) : WIdx sz (.bsl b off sz k ag) (.int n) d next σ = next (put d (.ptr b (off + n.toNat * sz)) σ) := by simp [WIdx, h]
theorem widx_gsl {sz b i v k : Nat} {ag : Bool} {n : Int} (h : 0 ≤ n ∧ n < k) : WIdx sz (.gsl b i v sz k ag) (.int n) d next σ = next (put d (.ptr (V.K b i v) (n.toNat * sz)) σ) := by simp [WIdx, h]
def WIdxA (len sz : Nat) (x i : AV) (d : Option Nat) (next : AS → Prop) (σ : AS) : Prop :=
  match x, i with
  | .ptr b o, .int n => (0 ≤ n ∧ n < len) ∧ next (put d (.ptr b (o + n.toNat * sz)) σ)
  | .ref z es j o, .int n => (0 ≤ n ∧ n < len) ∧ next (put d (.ref z es j (o + n.toNat * sz)) σ)
  | _, _ => False
theorem w1_idxA {len sz : Nat} {x i : VO} : W1 P d (.idxA len sz x i) next σ = WIdxA len sz (ev σ x) (ev σ i) d next σ := by
  simp only [W1, vcond, vval, vnext]
  generalize ev σ x = u
  generalize ev σ i = v
  cases u <;> cases v <;> simp [WIdxA]
theorem widxA_ptr {len sz b o : Nat} {n : Int} (h : 0 ≤ n ∧ n < len) : WIdxA len sz (.ptr b o) (.int n) d next σ = next (put d (.ptr b (o + n.toNat * sz)) σ) := by simp [WIdxA, h]
theorem widxA_ref {len sz z j o : Nat} {es : List AV} {n : Int} (h : 0 ≤ n ∧ n < len) : WIdxA len sz (.ref z es j o) (.int n) d next σ = next (put d (.ref z es j (o + n.toNat * sz)) σ) := by simp [WIdxA, h]
def WFieldV (off n : Nat) (ag : Bool) (x : AV) (d : Option Nat) (next : AS → Prop) (σ : AS) : Prop :=
  match x with
  | .agg cs => off + n ≤ cs.length ∧ next (put d (chunk ag n cs off) σ)
  | .aggw cs => off + n ≤ cs.length ∧ next (put d (if ag then .aggw ((cs.drop off).take n) else cs[off]?.getD .und) σ)
  | _ => False
theorem w1_fieldV {off n : Nat} {ag : Bool} {x : VO} : W1 P d (.fieldV off n ag x) next σ = WFieldV off n ag (ev σ x) d next σ := by
  simp only [W1, vcond, vval, vnext]
  generalize ev σ x = v
  cases v <;> simp [WFieldV, AV.cells]

theorem wfieldV_w {off n : Nat} {cs : List AV} : WFieldV off n true (.aggw cs) d next σ = (off + n ≤ cs.length ∧ next (put d (.aggw ((cs.drop off).take n)) σ)) := rfl
theorem wfieldV_w1 {off n : Nat} {cs : List AV} : WFieldV off n false (.aggw cs) d next σ = (off + n ≤ cs.length ∧ next (put d (cs[off]?.getD .und) σ)) := rfl
theorem wfieldV {off n : Nat} {ag : Bool} {cs : List AV} : WFieldV off n ag (.agg cs) d next σ = (off + n ≤ cs.length ∧ next (put d (chunk ag n cs off) σ)) := rfl
def WIndexV (len sz : Nat) (ag : Bool) (x i : AV) (d : Option Nat) (next : AS → Prop) (σ : AS) : Prop :=
  match x, i with
  | .agg cs, .int n => (cs.length = len * sz ∧ 0 < sz ∧ 0 ≤ n ∧ n < len) ∧ next (put d (chunk ag sz cs (n.toNat * sz)) σ)
  | _, _ => False
theorem w1_indexV {len sz : Nat} {ag : Bool} {x i : VO} : W1 P d (.indexV len sz ag x i) next σ = WIndexV len sz ag (ev σ x) (ev σ i) d next σ := by
  simp only [W1, vcond, vval, vnext]
  generalize ev σ x = u
  generalize ev σ i = v
  cases u <;> cases v <;> simp [WIndexV, AV.cells, AV.toInt]
theorem windexV {len sz : Nat} {ag : Bool} {cs : List AV} {n : Int} (h : 0 ≤ n ∧ n < len) (h2 : cs.length = len * sz) (h3 : 0 < sz) : WIndexV len sz ag (.agg cs) (.int n) d next σ = next (put d (chunk ag sz cs (n.toNat * sz)) σ) := by simp [WIndexV, h, h2, h3]
theorem tmod_cast {a b : Nat} : Int.tmod (a : Int) (b : Int) = ((a % b : Nat) : Int) := rfl
theorem tdiv_cast {a b : Nat} : Int.tdiv (a : Int) (b : Int) = ((a / b : Nat) : Int) := rfl
def WLoad (n : Nat) (ag : Bool) (x : AV) (avs : List Nat) (d : Option Nat) (next : AS → Prop) (σ : AS) : Prop :=
  match x with
  | .ptr b off => match getB σ.hp b with
    | some bx => (off + n ≤ bx.cells.length ∧ avOK b avs) ∧ next (put d (if ag then .agg ((((bx.cells.drop off).take n)).map (strip (frzL (bids ((bx.cells.drop off).take n)) σ.hp))) else bx.cells[off]?.getD .und) (if ag then frzS (bids ((bx.cells.drop off).take n)) σ else σ))
    | none => False
  | .ref sz es i off => (i < es.length ∧ off + n ≤ sz) ∧ next (put d (chunk ag n (es[i]?.getD .und).cells off) σ)
  | _ => False
theorem w1_load {n : Nat} {ag : Bool} {x : VO} {avs : List Nat} : W1 P d (.load n ag x avs) next σ = WLoad n ag (ev σ x) avs d next σ := by
  simp only [W1, vcond, vval, vnext]
  generalize ev σ x = v
  cases v <;> simp only [WLoad, false_and]
  rename_i b off
  cases getB σ.hp b <;> simp
theorem wload_emb {α : Type} [Inhabited α] {f : α → AV} {l : List α} {n sz i off : Nat} {ag : Bool} {avs : List Nat} (h : i < l.length ∧ off + n ≤ sz) : WLoad n ag (.ref sz (l.map f) i off) avs d next σ = next (put d (chunk ag n (f (l[i]?.getD default)).cells off) σ) := by
  obtain ⟨h1, h2⟩ := h
  simp [WLoad, h1, h2]
def WLoadB (n : Nat) (ag : Bool) (b off : Nat) (cells : List AV) (avs : List Nat) (d : Option Nat) (next : AS → Prop) (fr : List (Nat × AV)) (hp : List (Nat × BX)) (tk : List (Nat × Nat)) (pd : Option Ex) : Prop :=
  (off + n ≤ cells.length ∧ avOK b avs) ∧ next (put d (if ag then .agg ((((cells.drop off).take n)).map (strip (frzL (bids ((cells.drop off).take n)) hp))) else cells[off]?.getD .und) (if ag then ⟨fr, frzL (bids ((cells.drop off).take n)) hp, tk, pd⟩ else ⟨fr, hp, tk, pd⟩))
theorem wload_ptr {n b off : Nat} {ag : Bool} {avs : List Nat} {fr : List (Nat × AV)} {hp : List (Nat × BX)} {tk : List (Nat × Nat)} {pd : Option Ex} : WLoad n ag (.ptr b off) avs d next ⟨fr, hp, tk, pd⟩ = (match getB hp b with
    | some bx => WLoadB n ag b off bx.cells avs d next fr hp tk pd
    | none => False) := rfl
theorem wloadb_ag {n b off : Nat} {cells : List AV} {avs : List Nat} {fr : List (Nat × AV)} {hp : List (Nat × BX)} {tk : List (Nat × Nat)} {pd : Option Ex} (h : off + n ≤ cells.length) : WLoadB n true b off cells avs d next fr hp tk pd =
    (avOK b avs ∧ next (put d (.agg ((((cells.drop off).take n)).map (strip (frzL (bids ((cells.drop off).take n)) hp)))) ⟨fr, frzL (bids ((cells.drop off).take n)) hp, tk, pd⟩)) := by simp [WLoadB, h]
theorem wloadb_1 {n b off : Nat} {cells : List AV} {avs : List Nat} {fr : List (Nat × AV)} {hp : List (Nat × BX)} {tk : List (Nat × Nat)} {pd : Option Ex} (h : off + n ≤ cells.length) : WLoadB n false b off cells avs d next fr hp tk pd =
    (avOK b avs ∧ next (put d (cells[off]?.getD .und) ⟨fr, hp, tk, pd⟩)) := by simp [WLoadB, h]
theorem avok {b : Nat} {avs : List Nat} : avOK b avs = (¬ b ∈ avs ∧ (¬ 1048576 ∈ avs ∨ b < 1048576)) := rfl
/-- A whole aggregate as it is. -/
def WLoadW (n : Nat) (x : AV) (avs : List Nat) (d : Option Nat) (next : AS → Prop) (σ : AS) : Prop :=
  match x with
  | .ptr b off => match getB σ.hp b with
    | some bx => (off + n ≤ bx.cells.length ∧ avOK b avs) ∧ next (put d (.aggw (((bx.cells.drop off).take n).map AV.shr)) σ)
    | none => False
  | _ => False
theorem w1_loadW {n : Nat} {x : VO} {avs : List Nat} : W1 P d (.loadW n x avs) next σ = WLoadW n (ev σ x) avs d next σ := by
  simp only [W1, vcond, vval, vnext]
  generalize ev σ x = v
  cases v <;> simp only [WLoadW, false_and]
  rename_i b off
  cases getB σ.hp b <;> simp
def WLoadWB (n b off : Nat) (cells : List AV) (avs : List Nat) (d : Option Nat) (next : AS → Prop) (fr : List (Nat × AV)) (hp : List (Nat × BX)) (tk : List (Nat × Nat)) (pd : Option Ex) : Prop :=
  (off + n ≤ cells.length ∧ avOK b avs) ∧ next (put d (.aggw (((cells.drop off).take n).map AV.shr)) ⟨fr, hp, tk, pd⟩)
theorem wloadW_ptr {n b off : Nat} {avs : List Nat} {fr : List (Nat × AV)} {hp : List (Nat × BX)} {tk : List (Nat × Nat)} {pd : Option Ex} : WLoadW n (.ptr b off) avs d next ⟨fr, hp, tk, pd⟩ = (match getB hp b with
    | some bx => WLoadWB n b off bx.cells avs d next fr hp tk pd
    | none => False) := rfl
theorem wloadWb {n b off : Nat} {cells : List AV} {avs : List Nat} {fr : List (Nat × AV)} {hp : List (Nat × BX)} {tk : List (Nat × Nat)} {pd : Option Ex} (h : off + n ≤ cells.length) : WLoadWB n b off cells avs d next fr hp tk pd =
    (avOK b avs ∧ next (put d (.aggw (((cells.drop off).take n).map AV.shr)) ⟨fr, hp, tk, pd⟩)) := by simp [WLoadWB, h]
theorem w1_nilsG {b sz : Nat} {ix : Option VO} {ag : Bool} {fr : List (Nat × AV)} {hp : List (Nat × BX)} {tk : List (Nat × Nat)} {pd : Option Ex} : W1 P d (.nilsG b ix sz ag) next ⟨fr, hp, tk, pd⟩ =
    (getB hp (V.K b (dynI ⟨fr, hp, tk, pd⟩ ix) 0) = none ∧ next (put d (.gsl b (dynI ⟨fr, hp, tk, pd⟩ ix) 0 sz 0 ag) ⟨fr, (V.K b (dynI ⟨fr, hp, tk, pd⟩ ix) 0, ⟨[], false⟩) :: hp, tk, pd⟩)) := rfl
theorem dynI_none : dynI σ none = 0 := rfl
theorem dynI_some {x : VO} : dynI σ (some x) = (ev σ x).toInt.toNat := rfl
theorem toInt_int {n : Int} : (AV.int n).toInt = n := rfl
theorem yInfo_sl {sz : Nat} {fs : List AV} {m : VM} : yInfo (.sl sz fs m) = some (sz, fs.length, flat fs) := rfl
theorem yInfo_lsl {sz k : Nat} {cs : List AV} : yInfo (.lsl sz k cs) = some (sz, k, cs) := rfl
theorem flat_nil : flat [] = [] := rfl
theorem flat_cons {e : AV} {r : List AV} : flat (e :: r) = e.cells ++ flat r := rfl
theorem flatW_nil : flatW [] = [] := rfl
theorem flatW_cons {e : AV} {r : List AV} : flatW (e :: r) = e.cells.map AV.shr ++ flatW r := rfl
theorem shr_int {n : Int} : (AV.int n).shr = .int n := rfl
theorem shr_bool {n : Bool} : (AV.bool n).shr = .bool n := rfl
theorem shr_und : AV.und.shr = .und := rfl
theorem shr_ptr {b o : Nat} : (AV.ptr b o).shr = .ptr b o := rfl
theorem shr_ref {sz i off : Nat} {l : List AV} : (AV.ref sz l i off).shr = .ref sz l i off := rfl
theorem shr_bsl {b off sz n : Nat} {ag : Bool} : (AV.bsl b off sz n ag).shr = .bsl b off sz n ag := rfl
theorem shr_gsl {b i v sz n : Nat} {ag : Bool} : (AV.gsl b i v sz n ag).shr = .gsl b i v sz n ag := rfl
theorem shr_sh {sz : Nat} {es : List AV} : (AV.sl sz es .sh).shr = .sl sz es .sh := rfl
theorem shr_full {sz : Nat} {es : List AV} : (AV.sl sz es .full).shr = .sl sz es .full := rfl
theorem shr_own {sz k : Nat} {es : List AV} : (AV.sl sz es (.own k)).shr = .sl sz es .sh := rfl
theorem shr_clo {f : FuncId} {a b : List AV} : (AV.clo f a b).shr = .clo f a b := rfl
theorem fillW_nil {cells : List AV} : fillW σ cells [] = cells := rfl
theorem fillW_cons {cells : List AV} {off n : Nat} {x : VO} {r : List (Nat × Nat × VO)} : fillW σ cells ((off, n, x) :: r) = fillW σ (setAt cells off ((ev σ x).cells.map AV.shr)) r := rfl
theorem fillWOk_nil {n : Nat} : fillWOk σ n [] = True := rfl
theorem fillWOk_cons {k off n : Nat} {x : VO} {r : List (Nat × Nat × VO)} : fillWOk σ k ((off, n, x) :: r) = ((ev σ x).okv = true ∧ (ev σ x).cells.length = n ∧ off + n ≤ k ∧ fillWOk σ k r) := rfl
theorem w1_bsliceW {sz : Nat} {xs : List VO} {fr : List (Nat × AV)} {hp : List (Nat × BX)} {tk : List (Nat × Nat)} {pd : Option Ex} : W1 P d (.bsliceW sz xs) next ⟨fr, hp, tk, pd⟩ =
    ((allOk (evs ⟨fr, hp, tk, pd⟩ xs) ∧ allSz sz (evs ⟨fr, hp, tk, pd⟩ xs)) ∧ next (put d (.lsl sz xs.length (flatW (evs ⟨fr, hp, tk, pd⟩ xs))) ⟨fr, hp, tk, pd⟩)) := rfl
theorem w1_buildW {z : List AV} {ps : List (Nat × Nat × VO)} {fr : List (Nat × AV)} {hp : List (Nat × BX)} {tk : List (Nat × Nat)} {pd : Option Ex} : W1 P d (.buildW z ps) next ⟨fr, hp, tk, pd⟩ =
    (fillWOk ⟨fr, hp, tk, pd⟩ z.length ps ∧ next (put d (.aggw (fillW ⟨fr, hp, tk, pd⟩ z ps)) ⟨fr, hp, tk, pd⟩)) := rfl
/-- Append to what is one's own. -/
def WAppB (b i v sz n k : Nat) (cs : List AV) (ag : Bool) (bx fb : Option BX) (d : Option Nat) (next : AS → Prop) (fr : List (Nat × AV)) (hp : List (Nat × BX)) (tk : List (Nat × Nat)) (pd : Option Ex) : Prop :=
  (n + k ≤ 4294967296 ∧ fb = none) ∧
  match bx with
  | some ⟨cells, false⟩ => cells.length = n * sz ∧ next (put d (.gsl b i (v + 1) sz (n + k) ag) ⟨fr, (V.K b i (v + 1), ⟨cells ++ cs, false⟩) :: setB (V.K b i v) ⟨[], true⟩ hp, tk, pd⟩)
  | _ => False
def WAppG (b0 i0 sz : Nat) (ag : Bool) (x : AV) (y : Option (Nat × Nat × List AV)) (d : Option Nat) (next : AS → Prop) (fr : List (Nat × AV)) (hp : List (Nat × BX)) (tk : List (Nat × Nat)) (pd : Option Ex) : Prop :=
  match y with
  | none => False
  | some (sz'', k, cs) => sz'' = sz ∧
    match x with
    | .gsl b i v sz' n ag' => (b = b0 ∧ sz' = sz ∧ ag' = ag) ∧ WAppB b i v sz n k cs ag (getB hp (V.K b i v)) (getB hp (V.K b i (v + 1))) d next fr hp tk pd
    | .sl sz' [] .full => (sz' = sz ∧ k ≤ 4294967296 ∧ getB hp (V.K b0 i0 0) = none) ∧ next (put d (.gsl b0 i0 0 sz k ag) ⟨fr, (V.K b0 i0 0, ⟨cs, false⟩) :: hp, tk, pd⟩)
    | _ => False
theorem w1_appG {b sz by_ : Nat} {ix : Option VO} {ag : Bool} {x y : VO} {fr : List (Nat × AV)} {hp : List (Nat × BX)} {tk : List (Nat × Nat)} {pd : Option Ex} : W1 P d (.appG b ix sz by_ ag x y) next ⟨fr, hp, tk, pd⟩ =
    WAppG b (dynI ⟨fr, hp, tk, pd⟩ ix) sz ag (ev ⟨fr, hp, tk, pd⟩ x) (yInfo (ev ⟨fr, hp, tk, pd⟩ y)) d next fr hp tk pd := by
  apply propext
  simp only [W1, vcond, vval, vnext, WAppG]
  generalize yInfo (ev ⟨fr, hp, tk, pd⟩ y) = q
  cases q with
  | none => simp only [false_and]
  | some q =>
    obtain ⟨sz'', k, cs⟩ := q
    simp only
    generalize ev ⟨fr, hp, tk, pd⟩ x = u
    constructor
    · rintro ⟨⟨rfl, h1⟩, h2⟩
      refine ⟨rfl, ?_⟩
      split at h1 <;> first | exact h1.elim | skip
      · rename_i b' i v sz' n ag'
        obtain ⟨rfl, rfl, rfl, h3, h4, h5⟩ := h1
        refine ⟨⟨rfl, rfl, rfl⟩, ⟨by unfold small at h3; omega, h4⟩, ?_⟩
        split at h5 <;> first | exact h5.elim | skip
        rename_i cells hg
        simp only [hg] at h2 ⊢
        exact ⟨h5, h2⟩
      · obtain ⟨rfl, h3, h4⟩ := h1
        exact ⟨⟨rfl, by unfold small at h3; omega, h4⟩, h2⟩
    · rintro ⟨rfl, h1⟩
      split at h1 <;> first | exact h1.elim | skip
      · rename_i b' i v sz' n ag'
        obtain ⟨⟨rfl, rfl, rfl⟩, ⟨h3, h4⟩, h5⟩ := h1
        split at h5 <;> first | exact h5.elim | skip
        rename_i cells hg
        simp only [hg]
        exact ⟨⟨trivial, trivial, trivial, trivial, by unfold small; omega, h4, h5.1⟩, h5.2⟩
      · obtain ⟨⟨rfl, h3, h4⟩, h5⟩ := h1
        exact ⟨⟨rfl, rfl, by unfold small; omega, h4⟩, h5⟩
theorem wappG_gsl {b i0 i v sz n k : Nat} {ag : Bool} {cs : List AV} {fr : List (Nat × AV)} {hp : List (Nat × BX)} {tk : List (Nat × Nat)} {pd : Option Ex} : WAppG b i0 sz ag (.gsl b i v sz n ag) (some (sz, k, cs)) d next fr hp tk pd =
    WAppB b i v sz n k cs ag (getB hp (V.K b i v)) (getB hp (V.K b i (v + 1))) d next fr hp tk pd := by simp [WAppG]
theorem wappG_nil {b i0 sz k : Nat} {ag : Bool} {cs : List AV} {fr : List (Nat × AV)} {hp : List (Nat × BX)} {tk : List (Nat × Nat)} {pd : Option Ex} (h : k ≤ 4294967296) : WAppG b i0 sz ag (.sl sz [] .full) (some (sz, k, cs)) d next fr hp tk pd =
    (getB hp (V.K b i0 0) = none ∧ next (put d (.gsl b i0 0 sz k ag) ⟨fr, (V.K b i0 0, ⟨cs, false⟩) :: hp, tk, pd⟩)) := by simp [WAppG, h]
theorem wappB {b i v sz n k : Nat} {ag : Bool} {cs cells : List AV} {fr : List (Nat × AV)} {hp : List (Nat × BX)} {tk : List (Nat × Nat)} {pd : Option Ex} (h : n + k ≤ 4294967296) : WAppB b i v sz n k cs ag (some ⟨cells, false⟩) none d next fr hp tk pd =
    (cells.length = n * sz ∧ next (put d (.gsl b i (v + 1) sz (n + k) ag) ⟨fr, (V.K b i (v + 1), ⟨cells ++ cs, false⟩) :: setB (V.K b i v) ⟨[], true⟩ hp, tk, pd⟩)) := by simp [WAppB, h]
/-- A region; boxes frozen ahead of it, and what is frozen is all's. -/
theorem wopsN {dr : Bool} {l : List VOper} {ks : Option (List Nat)} (bs : List Nat) (h : WOps P dr l (Kp ks (Q .norm)) (nrm bs σ)) : WP P (.opsN dr l ks) Q σ := ⟨bs, h⟩
theorem nrm_mk {bs : List Nat} {fr : List (Nat × AV)} {hp : List (Nat × BX)} {tk : List (Nat × Nat)} {pd : Option Ex} : nrm bs ⟨fr, hp, tk, pd⟩ = ⟨tidyFr (frzL bs hp) fr, tidyHp (frzL bs hp) (frzL bs hp), tk, pd⟩ := rfl
theorem tidyFr_nil {hp : HpL} : tidyFr hp [] = [] := rfl
theorem tidyFr_cons {hp : HpL} {t : Nat} {v : AV} {r : FrL} : tidyFr hp ((t, v) :: r) = (t, tidy hp v) :: tidyFr hp r := rfl
theorem tidyHp_nil {hp : HpL} : tidyHp hp [] = [] := rfl
theorem tidyHp_cons {hp r : HpL} {b : Nat} {cs : List AV} {f : Bool} : tidyHp hp ((b, ⟨cs, f⟩) :: r) = (b, ⟨cs.map (tidy hp), f⟩) :: tidyHp hp r := rfl
section
variable {hp : HpL}
theorem tidy_int {n : Int} : tidy hp (.int n) = .int n := rfl
theorem tidy_bool {n : Bool} : tidy hp (.bool n) = .bool n := rfl
theorem tidy_und : tidy hp .und = .und := rfl
theorem tidy_nul : tidy hp .nul = .nul := rfl
theorem tidy_agg {l : List AV} : tidy hp (.agg l) = .agg l := rfl
theorem tidy_tup {l : List AV} : tidy hp (.tup l) = .tup l := rfl
theorem tidy_sl {sz : Nat} {l : List AV} {m : VM} : tidy hp (.sl sz l m) = .sl sz l m := rfl
theorem tidy_ref {sz i off : Nat} {l : List AV} : tidy hp (.ref sz l i off) = .ref sz l i off := rfl
theorem tidy_ptr {b o : Nat} : tidy hp (.ptr b o) = .ptr b o := rfl
theorem tidy_clo {f : FuncId} {a b : List AV} : tidy hp (.clo f a b) = .clo f a b := rfl
theorem tidy_clw {f : FuncId} {a b : List AV} : tidy hp (.clw f a b) = .clw f a b := rfl
theorem tidy_yld {n : Nat} : tidy hp (.yld n) = .yld n := rfl
theorem tidy_lsl {sz n : Nat} {l : List AV} : tidy hp (.lsl sz n l) = .lsl sz n l := rfl
theorem tidy_aggw {l : List AV} : tidy hp (.aggw l) = .aggw (l.map (tidy1 hp)) := rfl
theorem tidy_bsl {b off sz n : Nat} {ag : Bool} : tidy hp (.bsl b off sz n ag) = (match getB hp b with
    | some ⟨cells, true⟩ => if off + n * sz ≤ cells.length ∧ (ag = true ∨ sz = 1) then .sl sz (chunks ag sz cells off n) .sh else .bsl b off sz n ag
    | _ => .bsl b off sz n ag) := rfl
theorem tidy_gsl {b i v sz n : Nat} {ag : Bool} : tidy hp (.gsl b i v sz n ag) = (match getB hp (V.K b i v) with
    | some ⟨cells, true⟩ => if n * sz ≤ cells.length ∧ (ag = true ∨ sz = 1) then .sl sz (chunks ag sz cells 0 n) .sh else .gsl b i v sz n ag
    | _ => .gsl b i v sz n ag) := rfl
theorem tidy1_int {n : Int} : tidy1 hp (.int n) = .int n := rfl
theorem tidy1_bool {n : Bool} : tidy1 hp (.bool n) = .bool n := rfl
theorem tidy1_und : tidy1 hp .und = .und := rfl
theorem tidy1_sl {sz : Nat} {l : List AV} {m : VM} : tidy1 hp (.sl sz l m) = .sl sz l m := rfl
theorem tidy1_ref {sz i off : Nat} {l : List AV} : tidy1 hp (.ref sz l i off) = .ref sz l i off := rfl
theorem tidy1_ptr {b o : Nat} : tidy1 hp (.ptr b o) = .ptr b o := rfl
theorem tidy1_clo {f : FuncId} {a b : List AV} : tidy1 hp (.clo f a b) = .clo f a b := rfl
theorem tidy1_bsl {b off sz n : Nat} {ag : Bool} : tidy1 hp (.bsl b off sz n ag) = (match getB hp b with
    | some ⟨cells, true⟩ => if off + n * sz ≤ cells.length ∧ (ag = true ∨ sz = 1) then .sl sz (chunks ag sz cells off n) .sh else .bsl b off sz n ag
    | _ => .bsl b off sz n ag) := rfl
theorem tidy1_gsl {b i v sz n : Nat} {ag : Bool} : tidy1 hp (.gsl b i v sz n ag) = (match getB hp (V.K b i v) with
    | some ⟨cells, true⟩ => if n * sz ≤ cells.length ∧ (ag = true ∨ sz = 1) then .sl sz (chunks ag sz cells 0 n) .sh else .gsl b i v sz n ag
    | _ => .gsl b i v sz n ag) := rfl
end
theorem ver_ne {v : Nat} : (v = v + 1) = False := by simp
theorem ver_ne' {v : Nat} : (v + 1 = v) = False := by simp
def WStore (n : Nat) (p v : AV) (ob : Option Nat) (d : Option Nat) (next : AS → Prop) (σ : AS) : Prop :=
  match p with
  | .ptr b off => match getB σ.hp b with
    | some bx => ((ob = none ∨ ob = some b) ∧ bx.frz = false ∧ off + n ≤ bx.cells.length ∧ v.okv = true ∧ v.cells.length = n) ∧ next (put d .und { σ with hp := setB b ⟨setAt bx.cells off v.cells, false⟩ σ.hp })
    | none => False
  | _ => False
theorem w1_store {n : Nat} {p x : VO} {ob : Option Nat} : W1 P d (.store n p x ob) next σ = WStore n (ev σ p) (ev σ x) ob d next σ := by
  simp only [W1, vcond, vval, vnext]
  generalize ev σ p = u
  cases u <;> simp only [WStore, false_and]
  rename_i b off
  cases getB σ.hp b <;> simp only [false_and]
def WStoreB (n b off : Nat) (bx : BX) (v : AV) (ob : Option Nat) (d : Option Nat) (next : AS → Prop) (fr : List (Nat × AV)) (hp : List (Nat × BX)) (tk : List (Nat × Nat)) (pd : Option Ex) : Prop :=
  ((ob = none ∨ ob = some b) ∧ bx.frz = false ∧ off + n ≤ bx.cells.length ∧ v.okv = true ∧ v.cells.length = n) ∧ next (put d .und ⟨fr, setB b ⟨setAt bx.cells off v.cells, false⟩ hp, tk, pd⟩)
theorem wstore_ptr {n b off : Nat} {v : AV} {ob : Option Nat} {fr : List (Nat × AV)} {hp : List (Nat × BX)} {tk : List (Nat × Nat)} {pd : Option Ex} : WStore n (.ptr b off) v ob d next ⟨fr, hp, tk, pd⟩ = (match getB hp b with
    | some bx => WStoreB n b off bx v ob d next fr hp tk pd
    | none => False) := rfl
theorem wstoreb {n b off : Nat} {cells : List AV} {v : AV} {ob : Option Nat} {fr : List (Nat × AV)} {hp : List (Nat × BX)} {tk : List (Nat × Nat)} {pd : Option Ex} (h : off + n ≤ cells.length) : WStoreB n b off ⟨cells, false⟩ v ob d next fr hp tk pd =
    ((ob = none ∨ ob = some b) ∧ v.okv = true ∧ v.cells.length = n ∧ next (put d .und ⟨fr, setB b ⟨setAt cells off v.cells, false⟩ hp, tk, pd⟩)) := by simp [WStoreB, h, and_assoc]
def WMakes (b sz : Nat) (ag : Bool) (z : List AV) (x : AV) (d : Option Nat) (next : AS → Prop) (σ : AS) : Prop :=
  match x with
  | .int n => (getB σ.hp b = none ∧ 0 ≤ n ∧ n ≤ 4294967296) ∧ next (put d (.bsl b 0 sz n.toNat ag) { σ with hp := (b, ⟨zeros z n.toNat, false⟩) :: σ.hp })
  | _ => False
theorem w1_makes {b sz by_ : Nat} {ag : Bool} {z : List AV} {x : VO} : W1 P d (.makes b sz by_ ag z x) next σ = WMakes b sz ag z (ev σ x) d next σ := by
  simp only [W1, vcond, vval, vnext]
  generalize ev σ x = v
  cases v <;> simp only [WMakes, false_and, AV.toInt]
  rename_i n
  simp only [small]
  congr 1
  apply propext
  constructor
  · rintro ⟨h1, h2, h3⟩; exact ⟨h1, h2, by omega⟩
  · rintro ⟨h1, h2, h3⟩; exact ⟨h1, h2, by omega⟩
theorem wmakes {b sz : Nat} {ag : Bool} {z : List AV} {n : Int} {fr : List (Nat × AV)} {hp : List (Nat × BX)} {tk : List (Nat × Nat)} {pd : Option Ex} (h : 0 ≤ n ∧ n ≤ 4294967296) :
    WMakes b sz ag z (.int n) d next ⟨fr, hp, tk, pd⟩ = (getB hp b = none ∧ next (put d (.bsl b 0 sz n.toNat ag) ⟨fr, (b, ⟨zeros z n.toNat, false⟩) :: hp, tk, pd⟩)) := by simp [WMakes, h]
def WMake0 (k sz : Nat) (x : AV) (d : Option Nat) (next : AS → Prop) (σ : AS) : Prop :=
  match x with
  | .int n => (getT σ.tk k = none ∧ 0 ≤ n ∧ n ≤ 4294967296) ∧ next (put d (.sl sz [] (.own k)) { σ with tk := (k, 0) :: σ.tk })
  | _ => False
theorem w1_make0 {k sz by_ : Nat} {x : VO} : W1 P d (.make0 k sz by_ x) next σ = WMake0 k sz (ev σ x) d next σ := by
  simp only [W1, vcond, vval, vnext]
  generalize ev σ x = v
  cases v <;> simp only [WMake0, false_and]
  rename_i n
  simp only [small]
  congr 1
  apply propext
  constructor
  · rintro ⟨h1, h2, h3⟩; exact ⟨h1, h2, by omega⟩
  · rintro ⟨h1, h2, h3⟩; exact ⟨h1, h2, by omega⟩
theorem wmake0 {k sz : Nat} {n : Int} {fr : List (Nat × AV)} {hp : List (Nat × BX)} {tk : List (Nat × Nat)} {pd : Option Ex} (h : 0 ≤ n ∧ n ≤ 4294967296) :
    WMake0 k sz (.int n) d next ⟨fr, hp, tk, pd⟩ = (getT tk k = none ∧ next (put d (.sl sz [] (.own k)) ⟨fr, hp, (k, 0) :: tk, pd⟩)) := by simp [WMake0, h]
def WApp (k0 sz : Nat) (x y : AV) (d : Option Nat) (next : AS → Prop) (σ : AS) : Prop :=
  match x, y with
  | .sl sz' es m, .sl sz'' fs _ => (sz' = sz ∧ sz'' = sz ∧ es.length + fs.length ≤ 4294967296) ∧
    (match m with
     | .sh => False
     | .full => getT σ.tk k0 = none ∧ next (put d (.sl sz (es ++ fs) (.own k0)) { σ with tk := (k0, es.length + fs.length) :: σ.tk })
     | .own k => getT σ.tk k = some es.length ∧ next (put d (.sl sz (es ++ fs) (.own k)) { σ with tk := setT k (es.length + fs.length) σ.tk }))
  | _, _ => False
theorem w1_app {k sz by_ : Nat} {x y : VO} : W1 P d (.app k sz by_ x y) next σ = WApp k sz (ev σ x) (strip σ.hp (ev σ y)) d next σ := by
  simp only [W1, vcond, vval, vnext]
  generalize ev σ x = u
  generalize strip σ.hp (ev σ y) = v
  cases u <;> cases v <;> simp only [WApp, false_and]
  rename_i m _ _ _
  cases m <;> simp only [small, and_false, false_and, and_assoc]
theorem wapp_own {k0 k sz : Nat} {es fs : List AV} {m : VM} {fr : List (Nat × AV)} {hp : List (Nat × BX)} {tk : List (Nat × Nat)} {pd : Option Ex} (h : es.length + fs.length ≤ 4294967296) :
    WApp k0 sz (.sl sz es (.own k)) (.sl sz fs m) d next ⟨fr, hp, tk, pd⟩ = (getT tk k = some es.length ∧ next (put d (.sl sz (es ++ fs) (.own k)) ⟨fr, hp, setT k (es.length + fs.length) tk, pd⟩)) := by simp [WApp, h]
theorem wapp_full {k0 sz : Nat} {es fs : List AV} {m : VM} {fr : List (Nat × AV)} {hp : List (Nat × BX)} {tk : List (Nat × Nat)} {pd : Option Ex} (h : es.length + fs.length ≤ 4294967296) :
    WApp k0 sz (.sl sz es .full) (.sl sz fs m) d next ⟨fr, hp, tk, pd⟩ = (getT tk k0 = none ∧ next (put d (.sl sz (es ++ fs) (.own k0)) ⟨fr, hp, (k0, es.length + fs.length) :: tk, pd⟩)) := by simp [WApp, h]
def evo (σ : AS) : Option VO → Option AV
  | some x => some (ev σ x)
  | none => none
def lo0 : Option AV → AV
  | some x => x
  | none => .int 0
def hi0 (n : Nat) : Option AV → AV
  | some x => x
  | none => .int n
def WSlice (sz : Nat) (x : AV) (lo hi : Option AV) (d : Option Nat) (next : AS → Prop) (σ : AS) : Prop :=
  match x with
  | .sl sz' es _ => match lo0 lo, hi0 es.length hi with
    | .int l, .int h => (sz' = sz ∧ 0 ≤ l ∧ l ≤ h ∧ h ≤ es.length) ∧ next (put d (.sl sz ((es.take h.toNat).drop l.toNat) .sh) σ)
    | _, _ => False
  | _ => False
theorem opt_lo {x : Option VO} : optInt σ 0 x = lo0 (evo σ x) := by cases x <;> rfl
theorem opt_hi {x : Option VO} {n : Nat} : optInt σ (n : Int) x = hi0 n (evo σ x) := by cases x <;> rfl
theorem w1_slice {sz : Nat} {x : VO} {lo hi : Option VO} : W1 P d (.slice sz x lo hi) next σ = WSlice sz (ev σ x) (evo σ lo) (evo σ hi) d next σ := by
  simp only [W1, vcond, vval, vnext, opt_lo, opt_hi]
  generalize ev σ x = v
  cases v <;> simp only [WSlice, false_and]
  rename_i sz' es m
  generalize lo0 (evo σ lo) = u
  generalize hi0 es.length (evo σ hi) = u'
  cases u <;> cases u' <;> simp only [false_and, AV.toInt]
theorem wslice_lh {sz : Nat} {es : List AV} {m : VM} {l h : Int} (hc : 0 ≤ l ∧ l ≤ h ∧ h ≤ es.length) : WSlice sz (.sl sz es m) (some (.int l)) (some (.int h)) d next σ = next (put d (.sl sz ((es.take h.toNat).drop l.toNat) .sh) σ) := by simp [WSlice, lo0, hi0, hc]
theorem wslice_l {sz : Nat} {es : List AV} {m : VM} {l : Int} (hc : 0 ≤ l ∧ l ≤ es.length) : WSlice sz (.sl sz es m) (some (.int l)) none d next σ = next (put d (.sl sz (es.drop l.toNat) .sh) σ) := by simp [WSlice, lo0, hi0, hc]
theorem wslice_h {sz : Nat} {es : List AV} {m : VM} {h : Int} (hc : 0 ≤ h ∧ h ≤ es.length) : WSlice sz (.sl sz es m) none (some (.int h)) d next σ = next (put d (.sl sz (es.take h.toNat) .sh) σ) := by simp [WSlice, lo0, hi0, hc]
theorem wslice_n {sz : Nat} {es : List AV} {m : VM} : WSlice sz (.sl sz es m) none none d next σ = next (put d (.sl sz es .sh) σ) := by simp [WSlice, lo0, hi0]

theorem w1_build {z : List AV} {ps : List (Nat × Nat × VO)} {fr : List (Nat × AV)} {hp : List (Nat × BX)} {tk : List (Nat × Nat)} {pd : Option Ex} : W1 P d (.build z ps) next ⟨fr, hp, tk, pd⟩ = (fillOk hp ⟨fr, hp, tk, pd⟩ z.length ps ∧ next (put d (.agg (fillV hp ⟨fr, hp, tk, pd⟩ z ps)) ⟨fr, hp, tk, pd⟩)) := rfl
theorem w1_bslice {sz : Nat} {xs : List VO} {fr : List (Nat × AV)} {hp : List (Nat × BX)} {tk : List (Nat × Nat)} {pd : Option Ex} : W1 P d (.bslice sz xs) next ⟨fr, hp, tk, pd⟩ = ((allOk (strips hp (evs ⟨fr, hp, tk, pd⟩ xs)) ∧ allSz sz (strips hp (evs ⟨fr, hp, tk, pd⟩ xs))) ∧ next (put d (.sl sz (strips hp (evs ⟨fr, hp, tk, pd⟩ xs)) .full) ⟨fr, hp, tk, pd⟩)) := rfl
theorem w1_mkf {f : FuncId} {xs : List VO} {fr : List (Nat × AV)} {hp : List (Nat × BX)} {tk : List (Nat × Nat)} {pd : Option Ex} : W1 P d (.mkf f xs) next ⟨fr, hp, tk, pd⟩ = (allOk (strips (frzL (bids (evs ⟨fr, hp, tk, pd⟩ xs)) hp) (evs ⟨fr, hp, tk, pd⟩ xs)) ∧ next (put d (.clo f [] (strips (frzL (bids (evs ⟨fr, hp, tk, pd⟩ xs)) hp) (evs ⟨fr, hp, tk, pd⟩ xs))) ⟨fr, frzL (bids (evs ⟨fr, hp, tk, pd⟩ xs)) hp, tk, pd⟩)) := rfl
def WSliceF (sz : Nat) (x : AV) (lo hi mx : Option AV) (d : Option Nat) (next : AS → Prop) (σ : AS) : Prop :=
  match x with
  | .sl sz' es _ => match lo0 lo, hi0 es.length hi, hi0 es.length mx with
    | .int l, .int h, .int m => (sz' = sz ∧ 0 ≤ l ∧ l ≤ h ∧ h ≤ es.length ∧ m = h) ∧ next (put d (.sl sz ((es.take h.toNat).drop l.toNat) .full) σ)
    | _, _, _ => False
  | _ => False
theorem w1_sliceF {sz : Nat} {x : VO} {lo hi mx : Option VO} : W1 P d (.sliceF sz x lo hi mx) next σ = WSliceF sz (ev σ x) (evo σ lo) (evo σ hi) (evo σ mx) d next σ := by
  simp only [W1, vcond, vval, vnext, opt_lo, opt_hi]
  generalize ev σ x = v
  cases v <;> simp only [WSliceF, false_and]
  rename_i sz' es m
  generalize lo0 (evo σ lo) = u
  generalize hi0 es.length (evo σ hi) = u'
  generalize hi0 es.length (evo σ mx) = u''
  cases u <;> cases u' <;> cases u'' <;> simp only [false_and, AV.toInt]
theorem wsliceF_all {sz : Nat} {es : List AV} {m : VM} : WSliceF sz (.sl sz es m) none (some (.int es.length)) (some (.int es.length)) d next σ = next (put d (.sl sz es .full) σ) := by simp [WSliceF, lo0, hi0]
def WSliceA (len sz : Nat) (ag : Bool) (x : AV) (lo hi : Option AV) (d : Option Nat) (next : AS → Prop) (σ : AS) : Prop :=
  match x with
  | .ptr b o => match lo0 lo, hi0 len hi with
    | .int l, .int h => (0 ≤ l ∧ l ≤ h ∧ h ≤ len ∧ l < len) ∧ next (put d (.bsl b (o + l.toNat * sz) sz (h.toNat - l.toNat) ag) σ)
    | _, _ => False
  | _ => False
theorem w1_sliceA {n sz : Nat} {ag : Bool} {x : VO} {lo hi : Option VO} : W1 P d (.sliceA n sz ag x lo hi) next σ = WSliceA n sz ag (ev σ x) (evo σ lo) (evo σ hi) d next σ := by
  simp only [W1, vcond, vval, vnext, opt_lo, opt_hi]
  generalize ev σ x = v
  cases v <;> simp only [WSliceA, false_and]
  generalize lo0 (evo σ lo) = u
  generalize hi0 n (evo σ hi) = u'
  cases u <;> cases u' <;> simp only [false_and, AV.toInt]
theorem wsliceA_h {len sz b o : Nat} {ag : Bool} {h : Int} (hc : 0 ≤ h ∧ h ≤ len ∧ 0 < len) : WSliceA len sz ag (.ptr b o) none (some (.int h)) d next σ = next (put d (.bsl b o sz h.toNat ag) σ) := by simp [WSliceA, lo0, hi0, hc]
theorem wsliceA_n {len sz b o : Nat} {ag : Bool} (hc : 0 < len) : WSliceA len sz ag (.ptr b o) none none d next σ = next (put d (.bsl b o sz len ag) σ) := by
  have : (0 : Int) < len := by omega
  simp [WSliceA, lo0, hi0, hc]
theorem wload_ref1 {n sz off : Nat} {ag : Bool} {x : AV} {avs : List Nat} (h : off + n ≤ sz) : WLoad n ag (.ref sz [x] 0 off) avs d next σ = next (put d (chunk ag n x.cells off) σ) := by simp [WLoad, h]
theorem w1_call {f : FuncId} {xs : List VO} {fr : List (Nat × AV)} {hp : List (Nat × BX)} {tk : List (Nat × Nat)} {pd : Option Ex} : W1 P d (.call f xs) next ⟨fr, hp, tk, pd⟩ =
    (noUnd (strips (frzL (bids (evs ⟨fr, hp, tk, pd⟩ xs)) hp) (evs ⟨fr, hp, tk, pd⟩ xs)) ∧ WCall P f (strips (frzL (bids (evs ⟨fr, hp, tk, pd⟩ xs)) hp) (evs ⟨fr, hp, tk, pd⟩ xs)) d next ⟨fr, frzL (bids (evs ⟨fr, hp, tk, pd⟩ xs)) hp, tk, pd⟩) := rfl
theorem w1_callv {x : VO} {xs : List VO} {fr : List (Nat × AV)} {hp : List (Nat × BX)} {tk : List (Nat × Nat)} {pd : Option Ex} : W1 P d (.callv x xs) next ⟨fr, hp, tk, pd⟩ =
    (noUnd (strips (frzL (bids (evs ⟨fr, hp, tk, pd⟩ xs)) hp) (evs ⟨fr, hp, tk, pd⟩ xs)) ∧ WCallv P (ev ⟨fr, hp, tk, pd⟩ x) (strips (frzL (bids (evs ⟨fr, hp, tk, pd⟩ xs)) hp) (evs ⟨fr, hp, tk, pd⟩ xs)) d next ⟨fr, frzL (bids (evs ⟨fr, hp, tk, pd⟩ xs)) hp, tk, pd⟩) := rfl
theorem w1_callb {f : FuncId} {xs : List VO} {avs : List Nat} {fr : List (Nat × AV)} {hp : List (Nat × BX)} {tk : List (Nat × Nat)} {pd : Option Ex} : W1 P d (.callb f xs avs) next ⟨fr, hp, tk, pd⟩ =
    (noUnd (strips (frzL (bids (evs ⟨fr, hp, tk, pd⟩ xs)) hp) (evs ⟨fr, hp, tk, pd⟩ xs)) ∧ WCallb P f (strips (frzL (bids (evs ⟨fr, hp, tk, pd⟩ xs)) hp) (evs ⟨fr, hp, tk, pd⟩ xs)) d next ⟨fr, hp, tk, pd⟩) := rfl
theorem w1_mkm {f : FuncId} {xs : List VO} {fr : List (Nat × AV)} {hp : List (Nat × BX)} {tk : List (Nat × Nat)} {pd : Option Ex} : W1 P d (.mkm f xs) next ⟨fr, hp, tk, pd⟩ = (allOk (strips (frzL (bids (evs ⟨fr, hp, tk, pd⟩ xs)) hp) (evs ⟨fr, hp, tk, pd⟩ xs)) ∧ next (put d (.clo f (strips (frzL (bids (evs ⟨fr, hp, tk, pd⟩ xs)) hp) (evs ⟨fr, hp, tk, pd⟩ xs)) []) ⟨fr, frzL (bids (evs ⟨fr, hp, tk, pd⟩ xs)) hp, tk, pd⟩)) := rfl
theorem wcallb {f : FuncId} {args : List AV} {r : AV} (h : Ctr P.P f args r) (hs : scal r = true) (hn : next (put d r σ)) : WCallb P f args d next σ := ⟨r, ctrN_of_scal h hs, hn⟩
theorem wcallbN {f : FuncId} {args : List AV} {r : AV} (h : CtrN P.P f args r) (hn : next (put d r σ)) : WCallb P f args d next σ := ⟨r, h, hn⟩
theorem wcall {f : FuncId} {args : List AV} {r : AV} (h : Ctr P.P f args r) (hn : next (put d r σ)) : WCall P f args d next σ := ⟨r, h, hn⟩
theorem wcallv_clo {f : FuncId} {a b args : List AV} : WCallv P (.clo f a b) args d next σ = WCall P f (a ++ args ++ b) d next σ := rfl

theorem wp_loop' {Pr : Program} {T : Option (Nat × YT)} {rd : Bool} {c : VC} (ι : Type) (st : ι → AS) (I : ι → Prop) (μ : ι → Nat) (x₀ : ι) (h1 : I x₀) (h2 : leS σ (st x₀)) (h3 : ∀ x, I x → WP ⟨Pr, [], T, rd⟩ c (Lp [] st I μ x Q) (st x)) : WP ⟨Pr, [], T, rd⟩ (.loop c) Q σ :=
  ⟨ι, st, I, μ, x₀, [], h1, h2, trivial, h3⟩

/-- A loop where frames wait. -/
theorem wp_loopX {Pr : Program} {f : FrL} {X : List FrL} {T : Option (Nat × YT)} {rd : Bool} {c : VC} (ι : Type) (st : ι → AS) (I : ι → Prop) (μ : ι → Nat) (x₀ : ι) (h1 : I x₀) (h2 : leS σ (st x₀)) (hx : ∀ x, leX (st x) (f :: X))
    (h3 : ∀ x, I x → WP ⟨Pr, f :: X, T, rd⟩ c (Lp (f :: X) st I μ x Q) (st x)) : WP ⟨Pr, f :: X, T, rd⟩ (.loop c) Q σ :=
  ⟨ι, st, I, μ, x₀, [], h1, h2, hx _, h3⟩

theorem lpx_norm {ι : Type} {f : FrL} {X : List FrL} {st : ι → AS} {I : ι → Prop} {μ : ι → Nat} {x : ι} (h : ∃ y, I y ∧ μ y < μ x ∧ leS σ (st y) ∧ leX (st y) (f :: X)) : Lp (f :: X) st I μ x Q .norm σ := h

/-- A call on the caller's memory. -/
def WCallI (P : Env) (f : FuncId) (args : List AV) (d : Option Nat) (next : AS → Prop) (fr : FrL) (hp : HpL) (tk : TkL) (pd : Option Ex) : Prop :=
  CSem { P with X := fr :: P.X, rd := false } f args hp tk pd fun r hp' tk' pd' => next (put d r ⟨fr, hp', tk', pd'⟩)

theorem w1_calli {f : FuncId} {xs : List VO} {fr : List (Nat × AV)} {hp : List (Nat × BX)} {tk : List (Nat × Nat)} {pd : Option Ex} : W1 P d (.calli f xs) next ⟨fr, hp, tk, pd⟩ =
    WCallI P f (evs ⟨fr, hp, tk, pd⟩ xs) d next fr hp tk pd := rfl

def WCallW (P : Env) (v : AV) (args : List AV) (d : Option Nat) (next : AS → Prop) (fr : FrL) (hp : HpL) (tk : TkL) (pd : Option Ex) : Prop :=
  match v with
  | .clw f first caps => WCallI P f (first ++ args ++ caps) d next fr hp tk pd
  | .clo f first caps => WCallI P f (first ++ args ++ caps) d next fr hp tk pd
  | _ => False

theorem w1_callw {x : VO} {xs : List VO} {fr : List (Nat × AV)} {hp : List (Nat × BX)} {tk : List (Nat × Nat)} {pd : Option Ex} : W1 P d (.callw x xs) next ⟨fr, hp, tk, pd⟩ =
    WCallW P (ev ⟨fr, hp, tk, pd⟩ x) (evs ⟨fr, hp, tk, pd⟩ xs) d next fr hp tk pd := by
  show (match ev ⟨fr, hp, tk, pd⟩ x with | .clw f first caps => _ | .clo f first caps => _ | _ => False) = _
  generalize ev ⟨fr, hp, tk, pd⟩ x = v
  cases v <;> rfl
theorem wcallw_clw {f : FuncId} {first caps args : List AV} {fr : FrL} {hp : HpL} {tk : TkL} {pd : Option Ex} : WCallW P (.clw f first caps) args d next fr hp tk pd = WCallI P f (first ++ args ++ caps) d next fr hp tk pd := rfl
theorem wcallw_clo {f : FuncId} {first caps args : List AV} {fr : FrL} {hp : HpL} {tk : TkL} {pd : Option Ex} : WCallW P (.clo f first caps) args d next fr hp tk pd = WCallI P f (first ++ args ++ caps) d next fr hp tk pd := rfl

/-- A function is gone through in its caller's place. -/
theorem wcall_in {Pr : Program} {X : List FrL} {T : Option (Nat × YT)} {rd : Bool} (hmix : Pr.follows .mixedOrders = true) {f : FuncId} {fn : Func} {args : List AV} {n : Nat} {rs : List ResultVar} {vc : VC} {fr : FrL} {hp : HpL} {tk : TkL} {pd : Option Ex}
    (hf : Pr.funcs[f]? = some fn) (hm : fmatch Pr fn n rs vc = true) (hn : args.length = n) (h : WP ⟨Pr, fr :: X, T, false⟩ vc (FinI Pr rs fun r hp' tk' pd' => next (put d r ⟨fr, hp', tk', pd'⟩)) ⟨args0 0 args, hp, tk, pd⟩) :
    WCallI ⟨Pr, X, T, rd⟩ f args d next fr hp tk pd :=
  csem_of_wp (E := ⟨Pr, fr :: X, T, false⟩) hmix hf hm hn rfl h

/-- Yield. -/
def WYield (P : Env) (v : AV) (args : List AV) (d : Option Nat) (next : AS → Prop) (fr : FrL) (hp : HpL) (tk : TkL) (pd : Option Ex) : Prop :=
  match v with
  | .yld l => P.rd = false ∧ ∃ T, P.T = some (l, T) ∧ pd = none ∧ T (fr :: P.X) args hp tk fun b hp' tk' pd' => next (put d (.bool b) ⟨fr, hp', tk', pd'⟩)
  | _ => False

theorem w1_yield {x : VO} {xs : List VO} {fr : List (Nat × AV)} {hp : List (Nat × BX)} {tk : List (Nat × Nat)} {pd : Option Ex} : W1 P d (.yield x xs) next ⟨fr, hp, tk, pd⟩ =
    WYield P (ev ⟨fr, hp, tk, pd⟩ x) (evs ⟨fr, hp, tk, pd⟩ xs) d next fr hp tk pd := by
  show (match ev ⟨fr, hp, tk, pd⟩ x with | .yld l => _ | _ => False) = _
  generalize ev ⟨fr, hp, tk, pd⟩ x = v
  cases v <;> rfl

theorem wyield {Pr : Program} {X : List FrL} {T : YT} {l : Nat} {args : List AV} {fr : FrL} {hp : HpL} {tk : TkL} (h : T (fr :: X) args hp tk fun b hp' tk' pd' => next (put d (.bool b) ⟨fr, hp', tk', pd'⟩)) :
    WYield ⟨Pr, X, some (l, T), false⟩ (.yld l) args d next fr hp tk none := ⟨rfl, T, rfl, rfl, h⟩

theorem w1_mkw {f : FuncId} {xs : List VO} {fr : List (Nat × AV)} {hp : List (Nat × BX)} {tk : List (Nat × Nat)} {pd : Option Ex} : W1 P d (.mkw f xs) next ⟨fr, hp, tk, pd⟩ =
    (allW (evs ⟨fr, hp, tk, pd⟩ xs) ∧ next (put d (.clw f [] (evs ⟨fr, hp, tk, pd⟩ xs)) ⟨fr, hp, tk, pd⟩)) := rfl

/-- What is asked behind a range over a function. -/
def RgQ (Q : Ex → AS → Prop) (fr : FrL) (hp : HpL) (tk : TkL) : Option Ex → Prop
  | none => Q .norm ⟨fr, hp, tk, none⟩
  | some e => Q e ⟨fr, hp, tk, none⟩

def WRange (P : Env) (v : AV) (ps : List Nat) (a b : VC) (Q : Ex → AS → Prop) (fr : FrL) (hp : HpL) (tk : TkL) (pd : Option Ex) : Prop :=
  P.rd = false ∧ P.T = none ∧ pd = none ∧ ∃ f first caps, (v = .clo f first caps ∨ v = .clw f first caps) ∧
    ∀ (l : Nat) (T : YT), (∀ Xa vals hp tk post, vals.length = ps.length → WP ⟨P.P, Xa, none, true⟩ a (Then (WP ⟨P.P, Xa, none, true⟩ b (BodyQ post)) (fun _ _ => False)) ⟨putL ps vals fr, hp, tk, none⟩ → T Xa vals hp tk post) →
      CSem ⟨P.P, fr :: P.X, some (l, T), false⟩ f (first ++ [.yld l] ++ caps) hp tk none fun _ hp' tk' pd' => RgQ Q fr hp' tk' pd'

theorem wp_range' {x : VO} {ps : List Nat} {a b : VC} {fr : FrL} {hp : HpL} {tk : TkL} {pd : Option Ex} (h : WRange P (ev ⟨fr, hp, tk, pd⟩ x) ps a b Q fr hp tk pd) : WP P (.range x ps a b) Q ⟨fr, hp, tk, pd⟩ := by
  obtain ⟨h1, h2, rfl, f, first, caps, h4, h5⟩ := h
  refine ⟨h1, h2, rfl, fun l => ?_⟩
  have hc := h5 l (fun Xa vals hp tk post => vals.length = ps.length ∧ WP ⟨P.P, Xa, none, true⟩ a (Then (WP ⟨P.P, Xa, none, true⟩ b (BodyQ post)) (fun _ _ => False)) ⟨putL ps vals fr, hp, tk, none⟩) (fun _ _ _ _ _ q1 q2 => ⟨q1, q2⟩)
  have hc' := hc.mono (Q' := fun _ hp' tk' pd' => match pd' with
            | none => Q .norm ⟨fr, hp', tk', none⟩
            | some e => Q e ⟨fr, hp', tk', none⟩) (fun r hp' tk' pd' q => by cases pd' <;> exact q)
  rcases h4 with h4 | h4
  · simp only [h4]
    exact hc'
  · simp only [h4]
    exact hc'

theorem wrange {Pr : Program} {X : List FrL} {f : FuncId} {first caps : List AV} {ps : List Nat} {a b : VC} {fr : FrL} {hp : HpL} {tk : TkL}
    (h : ∀ (l : Nat) (T : YT), (∀ Xa vals hp tk post, vals.length = ps.length → WP ⟨Pr, Xa, none, true⟩ a (Then (WP ⟨Pr, Xa, none, true⟩ b (BodyQ post)) (fun _ _ => False)) ⟨putL ps vals fr, hp, tk, none⟩ → T Xa vals hp tk post) →
      CSem ⟨Pr, fr :: X, some (l, T), false⟩ f (first ++ [.yld l] ++ caps) hp tk none fun _ hp' tk' pd' => RgQ Q fr hp' tk' pd') : WRange ⟨Pr, X, none, false⟩ (.clo f first caps) ps a b Q fr hp tk none :=
  ⟨rfl, rfl, rfl, f, first, caps, .inl rfl, h⟩

theorem bodyQ_norm {post : Bool → HpL → TkL → Option Ex → Prop} {fr : FrL} {hp : HpL} {tk : TkL} {pd : Option Ex} : BodyQ post .norm ⟨fr, hp, tk, pd⟩ = post true hp tk none := rfl
theorem bodyQ_ret {post : Bool → HpL → TkL → Option Ex → Prop} {fr : FrL} {hp : HpL} {tk : TkL} {pd : Option Ex} : BodyQ post .ret ⟨fr, hp, tk, pd⟩ = post false hp tk (some .ret) := rfl
theorem bodyQ_exit {post : Bool → HpL → TkL → Option Ex → Prop} {fr : FrL} {hp : HpL} {tk : TkL} {pd : Option Ex} {i : Nat} : BodyQ post (.exit i) ⟨fr, hp, tk, pd⟩ = post false hp tk (some (.exit i)) := rfl
theorem rgq_none {fr : FrL} {hp : HpL} {tk : TkL} : RgQ Q fr hp tk none = Q .norm ⟨fr, hp, tk, none⟩ := rfl
theorem rgq_some {fr : FrL} {hp : HpL} {tk : TkL} {e : Ex} : RgQ Q fr hp tk (some e) = Q e ⟨fr, hp, tk, none⟩ := rfl
theorem putL_nil {vs : List AV} {fr : FrL} : putL [] vs fr = fr := by cases vs <;> rfl
theorem putL_cons {p : Nat} {ps : List Nat} {v : AV} {vs : List AV} {fr : FrL} : putL (p :: ps) (v :: vs) fr = putL ps vs ((p, v) :: fr) := rfl
theorem fini_0n {Pr : Program} {Qr : AV → HpL → TkL → Option Ex → Prop} {fr : FrL} {hp : HpL} {tk : TkL} {pd : Option Ex} : FinI Pr [] Qr .norm ⟨fr, hp, tk, pd⟩ = Qr (.tup []) hp tk pd := by
  show (noUnd [] ∧ Qr (tup1 []) _ _ _) = _
  simp only [noUnd, true_and]
  rfl
theorem fini_0r {Pr : Program} {Qr : AV → HpL → TkL → Option Ex → Prop} {fr : FrL} {hp : HpL} {tk : TkL} {pd : Option Ex} : FinI Pr [] Qr .ret ⟨fr, hp, tk, pd⟩ = Qr (.tup []) hp tk pd := by
  show (noUnd [] ∧ Qr (tup1 []) _ _ _) = _
  simp only [noUnd, true_and]
  rfl
theorem fini_1n {Pr : Program} {Qr : AV → HpL → TkL → Option Ex → Prop} {fr : FrL} {hp : HpL} {tk : TkL} {pd : Option Ex} {t : Nat} : FinI Pr [.tmp t] Qr .norm ⟨fr, hp, tk, pd⟩ = Qr (get fr t) hp tk pd := rfl
theorem fini_1r {Pr : Program} {Qr : AV → HpL → TkL → Option Ex → Prop} {fr : FrL} {hp : HpL} {tk : TkL} {pd : Option Ex} {t : Nat} : FinI Pr [.tmp t] Qr .ret ⟨fr, hp, tk, pd⟩ = Qr (get fr t) hp tk pd := rfl

/-- A result's box, as it is. -/
def WOutC (P : Program) (v : AV) (ty : TypeId) (Qr : AV → HpL → TkL → Option Ex → Prop) (hp : HpL) (tk : TkL) (pd : Option Ex) : Prop :=
  match v with
  | .ptr b 0 => match getB hp b with
    | some bx => match aggOf P ty with
      | some true => szOf P ty = some bx.cells.length ∧ Qr (.aggw (bx.cells.map AV.shr)) hp tk pd
      | some false => match bx.cells with
        | [x] => Qr x hp tk pd
        | _ => False
      | none => False
    | none => False
  | _ => False
theorem outW_spec {Pr : Program} {Qr : AV → HpL → TkL → Option Ex → Prop} {fr : FrL} {hp : HpL} {tk : TkL} {pd : Option Ex} {t : Nat} {ty : TypeId} :
    (match outW Pr ⟨fr, hp, tk, pd⟩ t ty with | some r => Qr r hp tk pd | none => False) = WOutC Pr (get fr t) ty Qr hp tk pd := by
  unfold outW WOutC
  simp only
  generalize get fr t = v
  cases v with
  | ptr b off =>
    cases off with
    | succ o => rfl
    | zero =>
      simp only
      cases getB hp b with
      | none => rfl
      | some bx =>
        simp only
        cases aggOf Pr ty with
        | none => rfl
        | some g =>
          cases g with
          | true =>
            simp only
            by_cases h : szOf Pr ty = some bx.cells.length
            · simp [h]
            · simp [h]
          | false =>
            simp only
            obtain ⟨cells, fz⟩ := bx
            match cells with
            | [] => rfl
            | [x] => rfl
            | _ :: _ :: _ => rfl
  | _ => rfl
theorem fini_cn {Pr : Program} {Qr : AV → HpL → TkL → Option Ex → Prop} {fr : FrL} {hp : HpL} {tk : TkL} {pd : Option Ex} {t : Nat} {ty : TypeId} : FinI Pr [.cell t ty] Qr .norm ⟨fr, hp, tk, pd⟩ = WOutC Pr (get fr t) ty Qr hp tk pd := outW_spec
theorem fini_cr {Pr : Program} {Qr : AV → HpL → TkL → Option Ex → Prop} {fr : FrL} {hp : HpL} {tk : TkL} {pd : Option Ex} {t : Nat} {ty : TypeId} : FinI Pr [.cell t ty] Qr .ret ⟨fr, hp, tk, pd⟩ = WOutC Pr (get fr t) ty Qr hp tk pd := outW_spec
theorem leS_mk {fr fr' : List (Nat × AV)} {hp hp' : List (Nat × BX)} {tk tk' : List (Nat × Nat)} {pd pd' : Option Ex} : leS ⟨fr, hp, tk, pd⟩ ⟨fr', hp', tk', pd'⟩ = (leFr ⟨fr', hp', tk', pd'⟩ fr fr' ∧ leHp ⟨fr', hp', tk', pd'⟩ hp hp' ∧ leTk ⟨fr', hp', tk', pd'⟩ tk tk' ∧ pd = pd') := rfl
theorem leFr_nil {τ : AS} {fr : List (Nat × AV)} : leFr τ fr [] = True := rfl
theorem leFr_cons {τ : AS} {fr r : List (Nat × AV)} {t : Nat} {v : AV} : leFr τ fr ((t, v) :: r) = (leV (get fr t) v ∧ inScope τ v ∧ leFr τ fr r) := rfl
theorem leHp_nil {τ : AS} {hp : List (Nat × BX)} : leHp τ hp [] = True := rfl
theorem leHp_cons {τ : AS} {hp r : List (Nat × BX)} {b : Nat} {x : BX} : leHp τ hp ((b, x) :: r) = (getB hp b = some x ∧ scopes τ x.cells ∧ leHp τ hp r) := rfl
theorem leTk_nil {τ : AS} {tk : List (Nat × Nat)} {pd : Option Ex} : leTk τ tk [] = True := rfl
theorem leTk_cons {τ : AS} {tk r : List (Nat × Nat)} {k n : Nat} : leTk τ tk ((k, n) :: r) = (getT tk k = some n ∧ leTk τ tk r) := rfl
theorem leV_refl {v : AV} : leV v v = True := by
  unfold leV
  split <;> simp
theorem leV_und {v : AV} : leV v .und = True := by
  unfold leV
  split <;> first | rfl | simp_all
theorem leV_int {a b : Int} : leV (.int a) (.int b) = (a = b) := by simp [leV]
theorem leV_bool {a b : Bool} : leV (.bool a) (.bool b) = (a = b) := by simp [leV]
theorem leV_agg {a b : List AV} : leV (.agg a) (.agg b) = (a = b) := by simp [leV]
theorem leV_sh {sz sz' : Nat} {a b : List AV} {m : VM} : leV (.sl sz a m) (.sl sz' b .sh) = (sz = sz' ∧ a = b) := rfl
theorem leV_own {sz sz' k k' : Nat} {a b : List AV} : leV (.sl sz a (.own k)) (.sl sz' b (.own k')) = (sz = sz' ∧ a = b ∧ k = k') := by simp [leV]
theorem inS_int {τ : AS} {n : Int} : inScope τ (.int n) = True := rfl
theorem inS_bool {τ : AS} {n : Bool} : inScope τ (.bool n) = True := rfl
theorem inS_und {τ : AS} : inScope τ .und = True := rfl
theorem inS_nul {τ : AS} : inScope τ .nul = True := rfl
theorem inS_agg {τ : AS} {l : List AV} : inScope τ (.agg l) = True := rfl
theorem inS_tup {τ : AS} {l : List AV} : inScope τ (.tup l) = True := rfl
theorem inS_ref {τ : AS} {sz i off : Nat} {l : List AV} : inScope τ (.ref sz l i off) = True := rfl
theorem inS_clo {τ : AS} {f : FuncId} {l l' : List AV} : inScope τ (.clo f l l') = True := rfl
theorem inS_clw {τ : AS} {f : FuncId} {l l' : List AV} : inScope τ (.clw f l l') = (scopes1 τ l ∧ scopes1 τ l') := rfl
theorem inS_yld {τ : AS} {l : Nat} : inScope τ (.yld l) = True := rfl
theorem scopes1_nil {τ : AS} : scopes1 τ [] = True := rfl
theorem scopes1_cons {τ : AS} {v : AV} {r : List AV} : scopes1 τ (v :: r) = (inScope1 τ v ∧ scopes1 τ r) := rfl
theorem inS1_ptr {fr : List (Nat × AV)} {hp : List (Nat × BX)} {tk : List (Nat × Nat)} {pd : Option Ex} {b off : Nat} : inScope1 ⟨fr, hp, tk, pd⟩ (.ptr b off) = ((getB hp b).isSome = true) := rfl
theorem inS1_gsl {fr : List (Nat × AV)} {hp : List (Nat × BX)} {tk : List (Nat × Nat)} {pd : Option Ex} {b i v sz n : Nat} {ag : Bool} : inScope1 ⟨fr, hp, tk, pd⟩ (.gsl b i v sz n ag) = ((getB hp (V.K b i v)).isSome = true) := rfl
theorem inS_gsl {fr : List (Nat × AV)} {hp : List (Nat × BX)} {tk : List (Nat × Nat)} {pd : Option Ex} {b i v sz n : Nat} {ag : Bool} : inScope ⟨fr, hp, tk, pd⟩ (.gsl b i v sz n ag) = ((getB hp (V.K b i v)).isSome = true) := rfl
theorem inS_aggw {τ : AS} {l : List AV} : inScope τ (.aggw l) = scopes1 τ l := rfl
theorem inS_lsl {τ : AS} {sz n : Nat} {l : List AV} : inScope τ (.lsl sz n l) = scopes1 τ l := rfl
theorem inS1_sl {τ : AS} {sz : Nat} {l : List AV} {m : VM} : inScope1 τ (.sl sz l m) = True := rfl
theorem inS1_und {τ : AS} : inScope1 τ .und = True := rfl
theorem okw_gsl {b i v sz n : Nat} {ag : Bool} : (AV.gsl b i v sz n ag).okw = true := rfl
@[simp] theorem cells_gsl {b i v sz n : Nat} {ag : Bool} : (AV.gsl b i v sz n ag).cells = [.gsl b i v sz n ag] := rfl
@[simp] theorem cells_aggw {l : List AV} : (AV.aggw l).cells = l := rfl
theorem okv_gsl {b i v sz n : Nat} {ag : Bool} : (AV.gsl b i v sz n ag).okv = true := rfl
theorem okv_aggw {l : List AV} : (AV.aggw l).okv = true := rfl
theorem inS1_bsl {fr : List (Nat × AV)} {hp : List (Nat × BX)} {tk : List (Nat × Nat)} {pd : Option Ex} {b off sz n : Nat} {ag : Bool} : inScope1 ⟨fr, hp, tk, pd⟩ (.bsl b off sz n ag) = ((getB hp b).isSome = true) := rfl
theorem inS1_int {τ : AS} {n : Int} : inScope1 τ (.int n) = True := rfl
theorem inS1_bool {τ : AS} {n : Bool} : inScope1 τ (.bool n) = True := rfl
theorem inS1_yld {τ : AS} {n : Nat} : inScope1 τ (.yld n) = True := rfl
theorem inS1_clo {τ : AS} {f : FuncId} {l l' : List AV} : inScope1 τ (.clo f l l') = True := rfl
theorem inS1_ref {τ : AS} {sz i off : Nat} {l : List AV} : inScope1 τ (.ref sz l i off) = True := rfl
theorem leX_nil {τ : AS} : leX τ [] = True := rfl
theorem leX_cons {τ : AS} {f : FrL} {r : List FrL} : leX τ (f :: r) = (scopesFr τ f ∧ leX τ r) := rfl
theorem scopesFr_nil {τ : AS} : scopesFr τ [] = True := rfl
theorem scopesFr_cons {τ : AS} {t : Nat} {v : AV} {r : FrL} : scopesFr τ ((t, v) :: r) = (inScope τ v ∧ scopesFr τ r) := rfl
theorem allW_nil : allW [] = True := rfl
theorem allW_cons {v : AV} {r : List AV} : allW (v :: r) = (v.okw = true ∧ allW r) := rfl
theorem okw_ptr {b off : Nat} : (AV.ptr b off).okw = true := rfl
theorem okw_bsl {b off sz n : Nat} {ag : Bool} : (AV.bsl b off sz n ag).okw = true := rfl
theorem okw_int {n : Int} : (AV.int n).okw = true := rfl
theorem okw_bool {n : Bool} : (AV.bool n).okw = true := rfl
theorem okw_clo {f : FuncId} {l l' : List AV} : (AV.clo f l l').okw = true := rfl
theorem okw_ref {sz i off : Nat} {l : List AV} : (AV.ref sz l i off).okw = true := rfl
theorem okw_yld {n : Nat} : (AV.yld n).okw = true := rfl
theorem inS_sh {τ : AS} {sz : Nat} {l : List AV} : inScope τ (.sl sz l .sh) = True := rfl
theorem inS_full {τ : AS} {sz : Nat} {l : List AV} : inScope τ (.sl sz l .full) = True := rfl
theorem inS_own {fr : List (Nat × AV)} {hp : List (Nat × BX)} {tk : List (Nat × Nat)} {pd : Option Ex} {sz k : Nat} {l : List AV} : inScope ⟨fr, hp, tk, pd⟩ (.sl sz l (.own k)) = ((getT tk k).isSome = true) := rfl
theorem inS_ptr {fr : List (Nat × AV)} {hp : List (Nat × BX)} {tk : List (Nat × Nat)} {pd : Option Ex} {b off : Nat} : inScope ⟨fr, hp, tk, pd⟩ (.ptr b off) = ((getB hp b).isSome = true) := rfl
theorem inS_bsl {fr : List (Nat × AV)} {hp : List (Nat × BX)} {tk : List (Nat × Nat)} {pd : Option Ex} {b off sz n : Nat} {ag : Bool} : inScope ⟨fr, hp, tk, pd⟩ (.bsl b off sz n ag) = ((getB hp b).isSome = true) := rfl
theorem scopes_nil {τ : AS} : scopes τ [] = True := rfl
theorem scopes_cons {τ : AS} {v : AV} {r : List AV} : scopes τ (v :: r) = (inScope τ v ∧ scopes τ r) := rfl

theorem chunk_one {x : AV} {off : Nat} : chunk false 1 [x] 0 = x := rfl
@[simp] theorem cells_int {n : Int} : (AV.int n).cells = [.int n] := rfl
@[simp] theorem cells_bool {n : Bool} : (AV.bool n).cells = [.bool n] := rfl
@[simp] theorem cells_agg {l : List AV} : (AV.agg l).cells = l := rfl
@[simp] theorem cells_sl {sz : Nat} {l : List AV} {m : VM} : (AV.sl sz l m).cells = [.sl sz l m] := rfl
@[simp] theorem cells_clo {f : FuncId} {a b : List AV} : (AV.clo f a b).cells = [.clo f a b] := rfl
@[simp] theorem cells_clw {f : FuncId} {a b : List AV} : (AV.clw f a b).cells = [.clw f a b] := rfl
@[simp] theorem cells_yld {n : Nat} : (AV.yld n).cells = [.yld n] := rfl
@[simp] theorem cells_ptr {b off : Nat} : (AV.ptr b off).cells = [.ptr b off] := rfl
@[simp] theorem cells_bsl {b off sz n : Nat} {ag : Bool} : (AV.bsl b off sz n ag).cells = [.bsl b off sz n ag] := rfl
@[simp] theorem cells_und : AV.und.cells = [.und] := rfl
theorem chunk_ag {n off : Nat} {l : List AV} : chunk true n l off = .agg ((l.drop off).take n) := rfl
theorem chunk_1 {n off : Nat} {l : List AV} : chunk false n l off = l[off]?.getD .und := rfl

theorem w64_eq (n : Int) : w64 n = if (true && decide (n % (18446744073709551616 : Int) ≥ (9223372036854775808 : Int))) = true then n % 18446744073709551616 - 18446744073709551616 else n % 18446744073709551616 := rfl
theorem w64_id {n : Int} (h : -9223372036854775808 ≤ n ∧ n ≤ 9223372036854775807) : w64 n = n := by
  obtain ⟨h1, h2⟩ := h
  rw [w64_eq]
  simp only [Bool.true_and, decide_eq_true_eq]
  split <;> omega
end
end Go.V

/- The abstract machine V, part 21: the tactic that works a weakest precondition out. -/
set_option linter.unusedSimpArgs false
set_option linter.unusedVariables false
set_option linter.unnecessarySimpa false
namespace Go.V
open Go Go.RowKit

section
variable {P : Program} {hp : List (Nat × BX)}
theorem strip_int {n : Int} : strip hp (.int n) = .int n := rfl
theorem strip_bool {n : Bool} : strip hp (.bool n) = .bool n := rfl
theorem strip_agg {l : List AV} : strip hp (.agg l) = .agg l := rfl
theorem strip_tup {l : List AV} : strip hp (.tup l) = .tup l := rfl
theorem strip_und : strip hp .und = .und := rfl
theorem strip_nul : strip hp .nul = .nul := rfl
theorem strip_ref {sz i off : Nat} {l : List AV} : strip hp (.ref sz l i off) = .ref sz l i off := rfl
theorem strip_clo {f : FuncId} {a b : List AV} : strip hp (.clo f a b) = .clo f a b := rfl
theorem strip_sl {sz : Nat} {l : List AV} {m : VM} : strip hp (.sl sz l m) = .sl sz l .sh := rfl
theorem strip_clw {f : FuncId} {a b : List AV} : strip hp (.clw f a b) = .und := rfl
theorem strip_yld {n : Nat} : strip hp (.yld n) = .yld n := rfl
theorem bid_clw {f : FuncId} {a b : List AV} : (AV.clw f a b).bid = [] := rfl
theorem bid_yld {n : Nat} : (AV.yld n).bid = [] := rfl
theorem isUnd_yld {n : Nat} : (AV.yld n).isUnd = false := rfl
theorem isUnd_clw {f : FuncId} {a b : List AV} : (AV.clw f a b).isUnd = false := rfl
theorem okv_clw {f : FuncId} {a b : List AV} : (AV.clw f a b).okv = true := rfl
theorem okv_yld {n : Nat} : (AV.yld n).okv = true := rfl
theorem okv_bsl {b off sz n : Nat} {ag : Bool} : (AV.bsl b off sz n ag).okv = true := rfl
theorem strip_ptr {b off : Nat} : strip hp (.ptr b off) = (match getB hp b with
    | some ⟨cells, true⟩ => .ref cells.length [.agg cells] 0 off
    | _ => .und) := rfl
theorem strip_bsl {b off sz n : Nat} {ag : Bool} : strip hp (.bsl b off sz n ag) = (match getB hp b with
    | some ⟨cells, true⟩ => if off + n * sz ≤ cells.length ∧ (ag = true ∨ sz = 1) then .sl sz (chunks ag sz cells off n) .sh else .und
    | _ => .und) := rfl
theorem strip_gsl {b i v sz n : Nat} {ag : Bool} : strip hp (.gsl b i v sz n ag) = (match getB hp (V.K b i v) with
    | some ⟨cells, true⟩ => if n * sz ≤ cells.length ∧ (ag = true ∨ sz = 1) then .sl sz (chunks ag sz cells 0 n) .sh else .und
    | _ => .und) := rfl
theorem strip_aggw {l : List AV} : strip hp (.aggw l) = .agg (l.map (strip1 hp)) := rfl
theorem strip_lsl {sz n : Nat} {l : List AV} : strip hp (.lsl sz n l) = .und := rfl
theorem strip1_int {n : Int} : strip1 hp (.int n) = .int n := rfl
theorem strip1_bool {n : Bool} : strip1 hp (.bool n) = .bool n := rfl
theorem strip1_und : strip1 hp .und = .und := rfl
theorem strip1_ref {sz i off : Nat} {l : List AV} : strip1 hp (.ref sz l i off) = .ref sz l i off := rfl
theorem strip1_clo {f : FuncId} {a b : List AV} : strip1 hp (.clo f a b) = .clo f a b := rfl
theorem strip1_sl {sz : Nat} {l : List AV} {m : VM} : strip1 hp (.sl sz l m) = .sl sz l .sh := rfl
theorem strip1_ptr {b off : Nat} : strip1 hp (.ptr b off) = (match getB hp b with
    | some ⟨cells, true⟩ => .ref cells.length [.agg cells] 0 off
    | _ => .und) := rfl
theorem strip1_bsl {b off sz n : Nat} {ag : Bool} : strip1 hp (.bsl b off sz n ag) = (match getB hp b with
    | some ⟨cells, true⟩ => if off + n * sz ≤ cells.length ∧ (ag = true ∨ sz = 1) then .sl sz (chunks ag sz cells off n) .sh else .und
    | _ => .und) := rfl
theorem strip1_gsl {b i v sz n : Nat} {ag : Bool} : strip1 hp (.gsl b i v sz n ag) = (match getB hp (V.K b i v) with
    | some ⟨cells, true⟩ => if n * sz ≤ cells.length ∧ (ag = true ∨ sz = 1) then .sl sz (chunks ag sz cells 0 n) .sh else .und
    | _ => .und) := rfl
theorem bid_gsl {b i v sz n : Nat} {ag : Bool} : (AV.gsl b i v sz n ag).bid = [V.K b i v] := rfl
theorem bid_aggw {l : List AV} : (AV.aggw l).bid = l.flatMap AV.bid1 := rfl
theorem bid_lsl {sz n : Nat} {l : List AV} : (AV.lsl sz n l).bid = [] := rfl
theorem bid1_int {n : Int} : (AV.int n).bid1 = [] := rfl
theorem bid1_bool {n : Bool} : (AV.bool n).bid1 = [] := rfl
theorem bid1_und : AV.und.bid1 = [] := rfl
theorem bid1_ref {sz i off : Nat} {l : List AV} : (AV.ref sz l i off).bid1 = [] := rfl
theorem bid1_clo {f : FuncId} {a b : List AV} : (AV.clo f a b).bid1 = [] := rfl
theorem bid1_sl {sz : Nat} {l : List AV} {m : VM} : (AV.sl sz l m).bid1 = [] := rfl
theorem bid1_ptr {b off : Nat} : (AV.ptr b off).bid1 = [b] := rfl
theorem bid1_bsl {b off sz n : Nat} {ag : Bool} : (AV.bsl b off sz n ag).bid1 = [b] := rfl
theorem bid1_gsl {b i v sz n : Nat} {ag : Bool} : (AV.gsl b i v sz n ag).bid1 = [V.K b i v] := rfl
theorem isUnd_gsl {b i v sz n : Nat} {ag : Bool} : (AV.gsl b i v sz n ag).isUnd = false := rfl
theorem isUnd_aggw {l : List AV} : (AV.aggw l).isUnd = false := rfl
theorem bid_int {n : Int} : (AV.int n).bid = [] := rfl
theorem bid_bool {n : Bool} : (AV.bool n).bid = [] := rfl
theorem bid_agg {l : List AV} : (AV.agg l).bid = [] := rfl
theorem bid_tup {l : List AV} : (AV.tup l).bid = [] := rfl
theorem bid_und : AV.und.bid = [] := rfl
theorem bid_nul : AV.nul.bid = [] := rfl
theorem bid_ref {sz i off : Nat} {l : List AV} : (AV.ref sz l i off).bid = [] := rfl
theorem bid_clo {f : FuncId} {a b : List AV} : (AV.clo f a b).bid = [] := rfl
theorem bid_sl {sz : Nat} {l : List AV} {m : VM} : (AV.sl sz l m).bid = [] := rfl
theorem bid_ptr {b off : Nat} : (AV.ptr b off).bid = [b] := rfl
theorem bid_bsl {b off sz n : Nat} {ag : Bool} : (AV.bsl b off sz n ag).bid = [b] := rfl
theorem bids_nil : bids [] = [] := rfl
theorem bids_cons {x : AV} {r : List AV} : bids (x :: r) = x.bid ++ bids r := rfl
theorem evs_nil {σ : AS} : evs σ [] = [] := rfl
theorem evs_cons {σ : AS} {x : VO} {r : List VO} : evs σ (x :: r) = ev σ x :: evs σ r := rfl
theorem strips_nil : strips hp [] = [] := rfl
theorem strips_cons {x : AV} {r : List AV} : strips hp (x :: r) = strip hp x :: strips hp r := rfl
theorem frzL_nil : frzL [] hp = hp := rfl
theorem frzL_cons {b : Nat} {r : List Nat} : frzL (b :: r) hp = frzL r (frz1 b hp) := rfl
theorem frzS_mk {bs : List Nat} {fr : List (Nat × AV)} {tk : List (Nat × Nat)} {pd : Option Ex} : frzS bs ⟨fr, hp, tk, pd⟩ = ⟨fr, frzL bs hp, tk, pd⟩ := rfl
theorem frz1_eq {b : Nat} : frz1 b hp = (match getB hp b with
  | some ⟨cells, false⟩ => setB b ⟨cells.map (strip hp), true⟩ hp
  | _ => hp) := rfl
theorem setB_nil {b : Nat} {x : BX} : setB b x [] = [(b, x)] := rfl
theorem setB_cons {b c : Nat} {x y : BX} {r : List (Nat × BX)} : setB b x ((c, y) :: r) = if c = b then (b, x) :: r else (c, y) :: setB b x r := rfl
theorem setT_nil {b : Nat} {x : Nat} : setT b x [] = [(b, x)] := rfl
theorem setT_cons {b c : Nat} {x y : Nat} {r : List (Nat × Nat)} : setT b x ((c, y) :: r) = if c = b then (b, x) :: r else (c, y) :: setT b x r := rfl
theorem noUnd_nil : noUnd [] = True := rfl
theorem noUnd_cons {x : AV} {r : List AV} : noUnd (x :: r) = (x.isUnd = false ∧ noUnd r) := rfl
theorem isUnd_int {n : Int} : (AV.int n).isUnd = false := rfl
theorem isUnd_bool {n : Bool} : (AV.bool n).isUnd = false := rfl
theorem isUnd_agg {l : List AV} : (AV.agg l).isUnd = false := rfl
theorem isUnd_tup {l : List AV} : (AV.tup l).isUnd = false := rfl
theorem isUnd_ref {sz i off : Nat} {l : List AV} : (AV.ref sz l i off).isUnd = false := rfl
theorem isUnd_clo {f : FuncId} {a b : List AV} : (AV.clo f a b).isUnd = false := rfl
theorem isUnd_sl {sz : Nat} {l : List AV} {m : VM} : (AV.sl sz l m).isUnd = false := rfl
theorem isUnd_nul : AV.nul.isUnd = false := rfl
theorem okv_int {n : Int} : (AV.int n).okv = true := rfl
theorem okv_bool {n : Bool} : (AV.bool n).okv = true := rfl
theorem okv_agg {l : List AV} : (AV.agg l).okv = true := rfl
theorem okv_sl {sz : Nat} {l : List AV} {m : VM} : (AV.sl sz l m).okv = true := rfl
theorem okv_ref {sz i off : Nat} {l : List AV} : (AV.ref sz l i off).okv = true := rfl
theorem okv_clo {f : FuncId} {a b : List AV} : (AV.clo f a b).okv = true := rfl
theorem okv_ptr {b off : Nat} : (AV.ptr b off).okv = true := rfl
theorem allOk_nil : allOk [] = True := rfl
theorem allOk_cons {x : AV} {r : List AV} : allOk (x :: r) = (x.okv = true ∧ allOk r) := rfl
theorem allSz_nil {n : Nat} : allSz n [] = True := rfl
theorem allSz_cons {n : Nat} {x : AV} {r : List AV} : allSz n (x :: r) = (x.cells.length = n ∧ allSz n r) := rfl
theorem fin_norm {rs : List ResultVar} {res : AV} {σ : AS} : Fin P rs res .norm σ = (noUnd (outs P (frzS (outIds σ rs) σ) rs) ∧ tup1 (outs P (frzS (outIds σ rs) σ) rs) = res) := rfl
theorem fin_ret {rs : List ResultVar} {res : AV} {σ : AS} : Fin P rs res .ret σ = (noUnd (outs P (frzS (outIds σ rs) σ) rs) ∧ tup1 (outs P (frzS (outIds σ rs) σ) rs) = res) := rfl
theorem outs_nil {σ : AS} : outs P σ [] = [] := rfl
theorem outs_tmp {fr : List (Nat × AV)} {tk : List (Nat × Nat)} {pd : Option Ex} {t : Nat} {r : List ResultVar} : outs P ⟨fr, hp, tk, pd⟩ (.tmp t :: r) = strip hp (get fr t) :: outs P ⟨fr, hp, tk, pd⟩ r := rfl
theorem outs_cell {fr : List (Nat × AV)} {tk : List (Nat × Nat)} {pd : Option Ex} {t : Nat} {ty : TypeId} {r : List ResultVar} : outs P ⟨fr, hp, tk, pd⟩ (.cell t ty :: r) = out1 P ⟨fr, hp, tk, pd⟩ (.cell t ty) :: outs P ⟨fr, hp, tk, pd⟩ r := rfl
theorem outIds_nil {σ : AS} : outIds σ [] = [] := rfl
theorem outIds_tmp {fr : List (Nat × AV)} {tk : List (Nat × Nat)} {pd : Option Ex} {t : Nat} {r : List ResultVar} : outIds ⟨fr, hp, tk, pd⟩ (.tmp t :: r) = (get fr t).bid ++ outIds ⟨fr, hp, tk, pd⟩ r := rfl
theorem outIds_cell {fr : List (Nat × AV)} {tk : List (Nat × Nat)} {pd : Option Ex} {t : Nat} {ty : TypeId} {r : List ResultVar} : outIds ⟨fr, hp, tk, pd⟩ (.cell t ty :: r) = (match get fr t with
     | .ptr b _ => match getB hp b with
       | some bx => bids bx.cells ++ [b]
       | none => []
     | _ => []) ++ outIds ⟨fr, hp, tk, pd⟩ r := rfl
theorem tup1_1 {x : AV} : tup1 [x] = x := rfl
theorem tup1_0 : tup1 [] = .tup [] := rfl
theorem tup1_2 {x y : AV} {r : List AV} : tup1 (x :: y :: r) = .tup (x :: y :: r) := rfl
theorem setAt_0 {cells vs : List AV} : setAt cells 0 vs = vs ++ cells.drop vs.length := by cases cells <;> rfl
theorem setAt_s {n : Nat} {c : AV} {cells vs : List AV} : setAt (c :: cells) (n + 1) vs = c :: setAt cells n vs := rfl
theorem fillV_nil {σ : AS} {cells : List AV} : fillV hp σ cells [] = cells := rfl
theorem fillV_cons {σ : AS} {cells : List AV} {off n : Nat} {x : VO} {r : List (Nat × Nat × VO)} : fillV hp σ cells ((off, n, x) :: r) = fillV hp σ (setAt cells off (strip hp (ev σ x)).cells) r := rfl
theorem fillOk_nil {σ : AS} {n : Nat} : fillOk hp σ n [] = True := rfl
theorem fillOk_cons {σ : AS} {k off n : Nat} {x : VO} {r : List (Nat × Nat × VO)} : fillOk hp σ k ((off, n, x) :: r) = ((strip hp (ev σ x)).okv = true ∧ (strip hp (ev σ x)).cells.length = n ∧ off + n ≤ k ∧ fillOk hp σ k r) := rfl
theorem not_dec {p : Prop} [Decidable p] : (!decide p) = decide (¬ p) := by by_cases h : p <;> simp [h]
theorem toNat_add {a b : Nat} : ((a : Int) + (b : Int)).toNat = a + b := by omega
theorem toNat_add1 {a : Nat} : ((a : Int) + 1).toNat = a + 1 := by omega
theorem nmem_cons {a b : Nat} {l : List Nat} : (¬ a ∈ b :: l) = (¬ a = b ∧ ¬ a ∈ l) := by simp
theorem beq_dec {a b : Int} : (a == b) = decide (a = b) := by by_cases h : a = b <;> simp [h]
theorem bne_dec {a b : Int} : (a != b) = decide (a ≠ b) := by by_cases h : a = b <;> simp [h]
end

attribute [go_sem] decide_true decide_false not_true_eq_false wcond_true wcond_false wp_skip' wp_ret' wp_exit' wp_ops' wp_seq' wp_cond' wp_block' wp_scope' then_norm then_exit then_ret blk_norm blk_ret blk_exit lp_exit lp_ret kp_some
 keepL_nil keepL_cons get_cons get_nil getB_cons getB_nil getT_cons getT_nil put_some put_none ev_t ev_k wops_nil wops_cons wops_consg wgd_tt wgd_ff wgd_tf wgd_ft wgd_nul wd_false
 wd_true w1_mov w1_nils w1_alloc w1_box w1_bin wbin_add wbin_sub wbin_mul wbin_quo wbin_rem wbin_lss wbin_leq wbin_gtr wbin_geq wbin_eql wbin_neq wbin_beq wbin_bne w1_not wnot
 w1_neg wneg w1_pick wpick w1_len wlen_sl wlen_bsl w1_min wmin w1_max wmax w1_max3 wmax3 wbin_seq2 wbin_sne2 w1_ext wext_0 wext_1 wext_2 wext_3 w1_fld wfld_ptr wfld_ref w1_nile wnile_ne w1_nilck wnilck_ptr wnilck_ref wnilck_clo
 w1_idx widx_sl widx_bsl w1_idxA widxA_ptr widxA_ref w1_fieldV wfieldV w1_indexV w1_load wload_emb wload_ref1 wsliceF_all w1_sliceA wsliceA_h wsliceA_n wload_ptr w1_store wstore_ptr wstoreb wloadb_ag wloadb_1 w1_makes wmakes w1_make0 wmake0 w1_app wapp_own wapp_full
 w1_slice wslice_lh wslice_l wslice_h wslice_n w1_sliceF w1_sliceA w1_build w1_bslice w1_mkf w1_call w1_callv wcallv_clo leS_mk leFr_nil leFr_cons leHp_nil leHp_cons leTk_nil
 leTk_cons leV_refl leV_und leV_int leV_bool leV_agg leV_sh leV_own inS_int inS_bool inS_und inS_nul inS_agg inS_tup inS_ref inS_clo inS_sh inS_full inS_own inS_ptr inS_bsl
 scopes_nil scopes_cons chunk_one cells_int cells_bool cells_agg cells_sl cells_clo cells_und chunk_ag chunk_1 w64_id
attribute [go_sem] strip_int strip_bool strip_agg strip_tup strip_und strip_nul strip_ref strip_clo strip_sl strip_ptr strip_bsl bid_int bid_bool bid_agg bid_tup bid_und bid_nul bid_ref bid_clo
 bid_sl bid_ptr bid_bsl bids_nil bids_cons evs_nil evs_cons strips_nil strips_cons frzL_nil frzL_cons frzS_mk frz1_eq setB_nil setB_cons setT_nil setT_cons noUnd_nil noUnd_cons
 isUnd_int isUnd_bool isUnd_agg isUnd_tup isUnd_ref isUnd_clo isUnd_sl isUnd_nul okv_int okv_bool okv_agg okv_sl okv_ref okv_clo okv_ptr allOk_nil allOk_cons allSz_nil allSz_cons
 fin_norm fin_ret outs_nil outs_tmp outs_cell outIds_nil outIds_tmp outIds_cell tup1_1 tup1_0 tup1_2 setAt_s fillV_nil fillV_cons fillOk_nil fillOk_cons not_dec beq_dec
 bne_dec
attribute [go_sem] vcond vnext dcond V.start V.args0 evo List.length_map List.length_append List.append_nil List.nil_append List.cons_append List.map_cons List.map_nil List.drop_zero
 List.drop_succ_cons List.drop_nil List.take_succ_cons List.take_zero List.take_nil List.length_cons List.length_nil List.getElem?_cons_zero List.getElem?_cons_succ Option.getD_some
 Int.toNat_natCast Int.natCast_nonneg Int.toNat_zero Int.zero_add Nat.zero_add Nat.add_zero Bool.not_true Bool.not_false beq_self_eq_true List.not_mem_nil not_false_eq_true
 Option.some.injEq or_true true_or or_false false_or true_and and_true Bool.false_eq_true Option.isSome_some BX.mk.injEq if_true if_false
attribute [go_sem] windexV tmod_cast tdiv_cast toNat_add toNat_add1 false_implies implies_true
attribute [go_sem] Bool.true_and Bool.false_and Bool.and_true Bool.and_false Bool.true_or Bool.false_or Bool.or_true Bool.or_false Nat.mul_one Nat.zero_mul
attribute [go_sem] nmem_cons strip_clw strip_yld bid_clw bid_yld isUnd_yld isUnd_clw okv_clw okv_yld okv_bsl w1_calli w1_callb w1_mkm w1_callw wcallw_clw wcallw_clo w1_yield w1_mkw bodyQ_norm bodyQ_ret bodyQ_exit rgq_none rgq_some putL_nil putL_cons fini_0n fini_0r fini_1n fini_1r inS_clw inS_yld scopes1_nil scopes1_cons inS1_ptr inS1_bsl
 inS1_int inS1_bool inS1_yld inS1_clo inS1_ref leX_nil leX_cons scopesFr_nil scopesFr_cons allW_nil allW_cons okw_ptr okw_bsl okw_int okw_bool okw_clo okw_ref okw_yld cells_clw cells_yld cells_ptr cells_bsl
attribute [go_sem] strip_gsl strip_aggw strip_lsl strip1_int strip1_bool strip1_und strip1_ref strip1_clo strip1_sl strip1_ptr strip1_bsl strip1_gsl bid_gsl bid_aggw bid_lsl bid1_int bid1_bool bid1_und bid1_ref bid1_clo bid1_sl bid1_ptr bid1_bsl bid1_gsl isUnd_gsl isUnd_aggw
 List.flatMap_nil List.flatMap_cons wlen_gsl widx_gsl wfieldV_w wfieldV_w1 avok w1_loadW wloadW_ptr wloadWb w1_nilsG dynI_none dynI_some toInt_int yInfo_sl yInfo_lsl flat_nil flat_cons flatW_nil flatW_cons shr_int shr_bool shr_und shr_ptr shr_ref shr_bsl shr_gsl shr_sh shr_full shr_own shr_clo
 fillW_nil fillW_cons fillWOk_nil fillWOk_cons w1_bsliceW w1_buildW w1_appG wappG_gsl wappG_nil wappB nrm_mk tidyFr_nil tidyFr_cons tidyHp_nil tidyHp_cons tidy_int tidy_bool tidy_und tidy_nul tidy_agg tidy_tup tidy_sl tidy_ref tidy_ptr tidy_clo tidy_clw tidy_yld tidy_lsl tidy_aggw tidy_bsl tidy_gsl
 tidy1_int tidy1_bool tidy1_und tidy1_sl tidy1_ref tidy1_ptr tidy1_clo tidy1_bsl tidy1_gsl ver_ne ver_ne' K_inj K_ne K_ne' inS_gsl inS_aggw inS_lsl inS1_gsl inS1_sl inS1_und okw_gsl cells_gsl cells_aggw okv_gsl okv_aggw and_self
attribute [go_sem] fini_cn fini_cr WOutC
attribute [go_sem low] setAt_0

end Go.V

/- The abstract machine V, part 22: from what a row says of its arguments to abstract values. -/
set_option linter.unusedSimpArgs false
set_option linter.unusedVariables false
set_option linter.unnecessarySimpa false
namespace Go.V
open Go Go.RowKit

/-- Types of plain data. -/
inductive TC where
  | int | bool
  | st (l : List TC)
  | sl (e : TC)

mutual
def TC.size : TC → Nat
  | .st l => TC.sizes l
  | _ => 1
def TC.sizes : List TC → Nat
  | [] => 0
  | c :: r => c.size + TC.sizes r
end

def TC.isSt : TC → Bool
  | .st _ => true
  | _ => false

mutual
/-- The cells of a value of a type. -/
def Ty : TC → List AV → Prop
  | .int, cs => ∃ n : Int, (-9223372036854775808 ≤ n ∧ n ≤ 9223372036854775807) ∧ cs = [.int n]
  | .bool, cs => ∃ b : Bool, cs = [.bool b]
  | .st l, cs => TyL l cs
  | .sl e, cs => ∃ es : List (List AV), cs = [.sl e.size (es.map fun x => if e.isSt then .agg x else x[0]?.getD .und) .sh] ∧ es.length < 9223372036854775808 ∧ ∀ x ∈ es, Ty e x
def TyL : List TC → List AV → Prop
  | [], cs => cs = []
  | c :: r, cs => ∃ a b, cs = a ++ b ∧ Ty c a ∧ TyL r b
end

mutual
def tcm (P : Program) : Nat → TypeId → TC → Bool
  | 0, _, _ => false
  | n + 1, t, tc =>
    match P.underlying t, tc with
    | some (.int .i64), .int => true
    | some .bool, .bool => true
    | some (.struct fs), .st l => tcfs P n fs.toList l 0 && P.cellsOf t == TC.sizes l
    | some (.slice e), .sl c => tcm P n e c && P.cellsOf e == c.size && c.size != 0
    | _, _ => false
def tcfs (P : Program) : Nat → List Field → List TC → Nat → Bool
  | _, [], [], _ => true
  | 0, _, _, _ => false
  | n + 1, f :: fs, c :: l, off => f.offset == off && P.cellsOf f.type == c.size && tcm P n f.type c && tcfs P n fs l (off + c.size)
  | _, _, _, _ => false
end

section
variable {P : Program} {H : Type} {enc : TypeId × Value → H} {w : World} {spare : Nat → Bool} {held : Bool}

/-- All memory that is there. -/
def CAll (w : World) : Nat → Nat → Prop := fun b _ => b < w.heap.size

theorem cval_all (w : World) : CVal (CAll w) w := fun _ _ h => h

/-- Cells that stand for abstract cells. -/
def RepCs (w : World) (cs : List Value) (avs : List AV) : Prop := avs.length = cs.length ∧ ∀ (j : Nat) (c : AV), avs[j]? = some c → c.isCell = true ∧ Rep0 (CAll w) w (cs[j]?.getD undef) c

theorem repCs_append {cs ds : List Value} {xs bs : List AV} (h : RepCs w cs xs) (k : RepCs w ds bs) : RepCs w (cs ++ ds) (xs ++ bs) := by
  refine ⟨by simp [h.1, k.1], fun j c hj => ?_⟩
  rcases Nat.lt_or_ge j xs.length with hl | hl
  · rw [List.getElem?_append_left hl] at hj
    rw [List.getElem?_append_left (by rw [← h.1]; exact hl)]
    exact h.2 j c hj
  · rw [List.getElem?_append_right hl] at hj
    rw [List.getElem?_append_right (by rw [← h.1]; exact hl), ← h.1]
    exact k.2 _ c hj

theorem repCs_one {v : Value} {c : AV} (hk : c.isCell = true) (h : Rep0 (CAll w) w v c) : RepCs w [v] [c] :=
  ⟨rfl, fun j d hj => by
    cases j with
    | zero => simp at hj; subst hj; exact ⟨hk, by simpa using h⟩
    | succ j => simp at hj⟩

theorem tyL_len : ∀ (l : List TC) (cs : List AV), (∀ c ∈ l, ∀ cs, Ty c cs → cs.length = c.size) → TyL l cs → cs.length = TC.sizes l
  | [], cs, _, h => by simp only [TyL] at h; subst h; rfl
  | c :: r, cs, hc, h => by
    simp only [TyL] at h
    obtain ⟨a, b, rfl, h1, h2⟩ := h
    rw [List.length_append, hc c (by simp) a h1, tyL_len r b (fun d hd => hc d (by simp [hd])) h2, TC.sizes]

theorem ty_len : ∀ (c : TC) (cs : List AV), Ty c cs → cs.length = c.size
  | .int, cs, h => by simp only [Ty] at h; obtain ⟨n, _, rfl⟩ := h; rfl
  | .bool, cs, h => by simp only [Ty] at h; obtain ⟨n, rfl⟩ := h; rfl
  | .sl e, cs, h => by simp only [Ty] at h; obtain ⟨n, rfl, _⟩ := h; rfl
  | .st l, cs, h => by
    simp only [Ty] at h
    rw [TC.size]
    exact tyL_len l cs (fun c hc cs h => ty_len c cs h) h

theorem spot_none {a : Addr} {v : Value} (h : w.cell? a = some v) : a.spot = none := by
  unfold World.cell? at h
  split at h
  · split at h
    · simp at h
    · rename_i hs
      cases ha : a.spot with
      | none => rfl
      | some x => simp [ha] at hs
  · simp at h

theorem cell_block {a : Addr} {v : Value} (h : w.cell? a = some v) : a.block < w.heap.size := by
  unfold World.cell? at h
  split at h
  · rename_i hb
    exact (Array.getElem?_eq_some_iff.1 hb).1
  · simp at h

theorem wf_i64 {n : Int} (h : (Lit.int .i64 n).wf = true) : -9223372036854775808 ≤ n ∧ n ≤ 9223372036854775807 := by
  simp [Lit.wf, IntKind.min, IntKind.max, IntKind.signed, IntKind.bits] at h
  omega

/-- What is read is what it stands for. -/
theorem trod_rep : ∀ (n : Nat) (g : Nat) (t : TypeId) (tc : TC) (cs : List Value) (x : DataW H × List MemPlace), tcm P g t tc = true → DataW.trod enc P w 0 spare held n t cs = some x →
    ∃ avs, RepCs w cs avs ∧ Ty tc avs := by
  intro n
  induction n with
  | zero => intro g t tc cs x _ h; simp [DataW.trod] at h
  | succ n ih =>
    intro g t tc cs x hm h
    cases g with
    | zero => simp [tcm] at hm
    | succ g =>
      unfold tcm at hm
      split at hm
      · rename_i hu
        obtain ⟨k, rfl, _, hw⟩ := DataW.trod_int hu h
        exact ⟨[.int k], repCs_one rfl (.int k), by simp only [Ty]; exact ⟨k, wf_i64 hw, rfl⟩⟩
      · rename_i hu
        obtain ⟨k, rfl, _⟩ := DataW.trod_bool hu h
        exact ⟨[.bool k], repCs_one rfl (.bool k), by simp only [Ty]; exact ⟨k, rfl⟩⟩
      · rename_i fs l hu
        simp only [Bool.and_eq_true, beq_iff_eq] at hm
        obtain ⟨hm1, hm2⟩ := hm
        obtain ⟨xs, n', hn, _, hlen, hxl, hf⟩ := DataW.trod_struct hu h
        have hn' : n' = n := by omega
        subst hn'
        have key : ∀ (fsl : List Field) (l : List TC) (g off : Nat), tcfs P g fsl l off = true → (∀ f ∈ fsl, ∃ y, DataW.trod enc P w 0 spare held n' f.type ((cs.drop f.offset).take (P.cellsOf f.type)) = some y) → off + TC.sizes l ≤ cs.length →
            ∃ avs, RepCs w ((cs.drop off).take (TC.sizes l)) avs ∧ TyL l avs := by
          intro fsl
          induction fsl with
          | nil =>
            intro l g off h1 _ _
            cases l with
            | nil => exact ⟨[], ⟨by simp [TC.sizes], fun j c hj => by simp at hj⟩, by simp only [TyL]⟩
            | cons c r => cases g <;> simp [tcfs] at h1
          | cons f fsl ihf =>
            intro l g off h1 h2 h3
            cases l with
            | nil => cases g <;> simp [tcfs] at h1
            | cons c r =>
              cases g with
              | zero => simp [tcfs] at h1
              | succ g =>
                simp only [tcfs, Bool.and_eq_true, beq_iff_eq] at h1
                obtain ⟨⟨⟨e1, e2⟩, e3⟩, e4⟩ := h1
                obtain ⟨y, hy⟩ := h2 f (by simp)
                obtain ⟨a, ha1, ha2⟩ := ih g f.type c _ y e3 hy
                simp only [TC.sizes] at h3
                obtain ⟨b, hb1, hb2⟩ := ihf r g (off + c.size) e4 (fun f' hf' => h2 f' (by simp [hf'])) (by omega)
                refine ⟨a ++ b, ?_, by simp only [TyL]; exact ⟨a, b, rfl, ha2, hb2⟩⟩
                have : (cs.drop off).take (TC.sizes (c :: r)) = (cs.drop f.offset).take (P.cellsOf f.type) ++ (cs.drop (off + c.size)).take (TC.sizes r) := by
                  rw [e1, e2, TC.sizes, List.take_add, List.drop_drop]
                rw [this]
                exact repCs_append ha1 hb1
        have hall : ∀ f ∈ fs.toList, ∃ y, DataW.trod enc P w 0 spare held n' f.type ((cs.drop f.offset).take (P.cellsOf f.type)) = some y := by
          intro f hff
          obtain ⟨i, hi⟩ := List.getElem?_of_mem hff
          have hi' : fs[i]? = some f := by simpa using hi
          have hlt : i < xs.length := by rw [hxl]; exact (Array.getElem?_eq_some_iff.1 hi').1
          rw [hf i f hi']
          exact ⟨xs[i], by simp [hlt]⟩
        obtain ⟨avs, h1, h2⟩ := key fs.toList l g 0 hm1 hall (by omega)
        refine ⟨avs, ?_, by simp only [Ty]; exact h2⟩
        rwa [List.drop_zero, List.take_of_length_le (by omega)] at h1
      · rename_i e c hu
        simp only [Bool.and_eq_true, beq_iff_eq, bne_iff_ne] at hm
        obtain ⟨⟨hm1, hm2⟩, hm3⟩ := hm
        rcases DataW.trod_slice hu h with ⟨rfl, _⟩ | ⟨a, len, cap, elems, rest, n', hn, rfl, _, hb, hl, hcap, hel, hei, _, _⟩
        · refine ⟨[.sl c.size [] .sh], repCs_one rfl (.sl0 _ _ _), ?_⟩
          simp only [Ty]
          exact ⟨[], rfl, by simp, fun x hx => by simp at hx⟩
        · have hn' : n' = n := by omega
          subst hn'
          rw [hm2] at hei
          have hone : ∀ i, i < len → ∃ p : List Value × List AV, w.cells? 0 (a.add (i * c.size)) c.size = some p.1 ∧ RepCs w p.1 p.2 ∧ Ty c p.2 := by
            intro i hi
            have := hei i hi
            have hlt : i < elems.length := by omega
            rw [List.getElem?_eq_getElem hlt] at this
            obtain ⟨csi, h1, h2⟩ := Option.bind_eq_some_iff.1 this
            obtain ⟨avs, h3, h4⟩ := ih g e c csi _ hm1 h2
            exact ⟨(csi, avs), h1, h3, h4⟩
          obtain ⟨F, hF⟩ := Go.Deep.choose_lt hone
          have hlen2 : ((List.range len).map fun i => (F i).2).length = len := by simp
          have hty : Ty (.sl c) [.sl c.size (((List.range len).map fun i => (F i).2).map fun x => if c.isSt then .agg x else x[0]?.getD .und) .sh] := by
            simp only [Ty]
            refine ⟨_, rfl, by rw [hlen2]; have : maxLen = 9223372036854775807 := by decide
                               omega, fun x hx => ?_⟩
            obtain ⟨i, hi, rfl⟩ := List.mem_map.1 hx
            exact (hF i (List.mem_range.1 hi)).2.2
          refine ⟨_, repCs_one rfl ?_, hty⟩
          by_cases h0 : len = 0
          · subst h0
            exact .sl0 _ _ _
          · have hc0 := (World.cells?_some (hF 0 (by omega)).1).2.2 0 (by omega)
            have hl0 := (World.cells?_some (hF 0 (by omega)).1).2.1
            rw [List.getElem?_eq_getElem (by omega)] at hc0
            have hsp := spot_none hc0
            have hblk := cell_block hc0
            simp only [Addr.add, Nat.zero_mul, if_true] at hsp hblk
            obtain ⟨blk, o, sp⟩ := a
            simp only at hsp hblk
            subst hsp
            have hadd : ∀ o k, (⟨blk, o, none⟩ : Addr).add k = ⟨blk, o + k, none⟩ := by
              intro o k
              unfold Addr.add
              split
              · rename_i hk; subst hk; rfl
              · rfl
            have hget : ∀ (i : Nat) (e : AV), (((List.range len).map fun i => (F i).2).map fun x => if c.isSt then AV.agg x else x[0]?.getD .und)[i]? = some e → i < len ∧ e = (if c.isSt then AV.agg (F i).2 else (F i).2[0]?.getD .und) := by
              intro i e he
              have hlt := (List.getElem?_eq_some_iff.1 he).1
              simp only [List.length_map, List.length_range] at hlt
              simp only [List.getElem?_map, List.getElem?_range hlt, Option.map_some, Option.some.injEq] at he
              exact ⟨hlt, he.symm⟩
            -- an element's cells
            have hcells : ∀ i, i < len → (if c.isSt then AV.agg (F i).2 else (F i).2[0]?.getD .und).cells = (F i).2 ∧ (if c.isSt then AV.agg (F i).2 else (F i).2[0]?.getD .und).isElem = true := by
              intro i hi
              obtain ⟨_, hr, hti⟩ := hF i hi
              by_cases hs : c.isSt = true
              · rw [if_pos hs]; exact ⟨rfl, rfl⟩
              · rw [if_neg hs]
                have hsz : c.size = 1 := by cases c <;> first | rfl | (simp [TC.isSt] at hs)
                have hl1 := ty_len c _ hti
                rw [hsz] at hl1
                match hF2 : (F i).2, hl1 with
                | [y], _ =>
                  have hy := (hr.2 0 y (by rw [hF2]; rfl)).1
                  simp only [List.getElem?_cons_zero, Option.getD_some]
                  refine ⟨?_, ?_⟩
                  · cases y <;> first | rfl | (simp [AV.isCell] at hy)
                  · cases y <;> first | rfl | (simp [AV.isCell] at hy)
            have hFl : ∀ i, i < len → (F i).2.length = c.size := fun i hi => ty_len c _ (hF i hi).2.2
            refine .sl blk o len cap c.size _ (fun i j => ((F i).1[j]?.getD undef)) (by simp) hl ?_ ?_ ?_ ?_ ?_ ?_
            · intro i e he
              obtain ⟨hi, rfl⟩ := hget i e he
              rw [(hcells i hi).1]; exact hFl i hi
            · intro i e he
              obtain ⟨hi, rfl⟩ := hget i e he
              exact (hcells i hi).2
            · intro i j _ _
              exact hblk
            · intro i j hi hj
              have hi : i < len := by simpa using hi
              have hc := (World.cells?_some (hF i hi).1).2.2 j hj
              have hl2 := (World.cells?_some (hF i hi).1).2.1
              rw [hadd, hadd, List.getElem?_eq_getElem (by omega)] at hc
              rw [hc]
              simp [show j < (F i).1.length by omega]
            · intro i e he j d hj
              obtain ⟨hi, rfl⟩ := hget i e he
              rw [(hcells i hi).1] at hj
              exact ((hF i hi).2.1.2 j d hj).1
            · intro i e he j d hj
              obtain ⟨hi, rfl⟩ := hget i e he
              rw [(hcells i hi).1] at hj
              exact ((hF i hi).2.1.2 j d hj).2
      · simp at hm

/-- A value of a type. -/
def TyV : TC → AV → Prop
  | .st l, av => ∃ cs, av = .agg cs ∧ TyL l cs
  | c, av => Ty c [av]

theorem trod_val {t : TypeId} {tc : TC} {v : Value} {d : DataW H} {p : List MemPlace} {r : Reach} {b0 g : Nat} (hm : tcm P g t tc = true) (hok : Value.okWide P w r b0 t v) (h : DataW.Trod enc P w 0 spare held t v d p) :
    ∃ av, Rep0 (CAll w) w v av ∧ TyV tc av := by
  obtain ⟨n, h⟩ := h
  obtain ⟨avs, h1, h2⟩ := trod_rep n g t tc _ _ hm h
  have one : v.cells = #[v] → tc.isSt = false → ∃ av, Rep0 (CAll w) w v av ∧ TyV tc av := by
    intro hv hs
    rw [hv] at h1
    have hl := h1.1
    match avs, hl with
    | [c], _ =>
      have := (h1.2 0 c rfl).2
      refine ⟨c, by simpa using this, ?_⟩
      cases tc <;> first | exact h2 | (simp [TC.isSt] at hs)
  cases tc with
  | st l =>
    cases g with
    | zero => simp [tcm] at hm
    | succ g =>
      unfold tcm at hm
      split at hm <;> first | (simp at hm; done) | skip
      all_goals (rename_i heq; first | (cases heq; done) | skip)
      rename_i fs l' hu
      unfold Value.okWide at hok
      rw [hu] at hok
      obtain ⟨cs, rfl, _, _⟩ := hok
      simp only [Ty] at h2
      refine ⟨.agg avs, .agg cs avs ?_ (fun j c hj => (h1.2 j c hj).1) (fun j c hj => ?_), ⟨avs, rfl, h2⟩⟩
      · have := h1.1; simpa [Value.cells] using this.symm
      · simpa [Value.cells] using (h1.2 j c hj).2
  | _ =>
    refine one ?_ rfl
    cases v <;> first | rfl | skip
    exfalso
    cases g with
    | zero => simp [tcm] at hm
    | succ g =>
      unfold tcm at hm
      unfold Value.okWide at hok
      split at hm <;> first | (simp at hm; done) | skip
      all_goals (rename_i hu heq; first | (cases heq; done) | (simp [hu, Cell.okWide, Cell.ok] at hok; done))

/-- A law's contract at the row's step. -/
theorem calls_of_ctr {f : FuncId} {args : List AV} {vs : Array Value} (hc : Ctr P f args (.bool true)) (hr : Reps0 (CAll w) w vs args) :
    Calls P f vs w fun e w' => e = .returned (.bool true) ∧ Below w.heap.size w w' :=
  (hc.2 (CAll w) w vs (cval_all w) hr).mono fun e w' h => by
    obtain ⟨v, C', h1, h2, _, _, _, h3⟩ := h
    cases h3
    exact ⟨h1, h2⟩

theorem reps_list {vs : List Value} {avs : List AV} (h : vs.length = avs.length) (hk : ∀ (j : Nat) (v : Value) (a : AV), vs[j]? = some v → avs[j]? = some a → Rep0 (CAll w) w v a) : Reps0 (CAll w) w vs.toArray avs :=
  ⟨by simpa using h, fun j c hj => by
    have hlt : j < vs.length := by rw [h]; exact (List.getElem?_eq_some_iff.1 hj).1
    have := hk j vs[j] c (by simp [hlt]) hj
    simpa [hlt] using this⟩

end
end Go.V

/- The compact code of the functions, and that it is theirs. -/
namespace Go.Proofs.Ytbghdcleoamkiaa
open Go Go.V
set_option maxRecDepth 100000

/-- steening/steeninglaw07.MouthsGauges -/
def v3 : VC :=
 (.seq
 (.ops false [
   ⟨some 3, .box 3 2 (.t 0), none⟩,
   ⟨some 6, .mov (.k (.bool false)), none⟩] (some [1, 2, 3]))
 (.seq
 (.seq
 (.ops false [
   ⟨some 20, .load 2 true (.t 3) [], none⟩,
   ⟨some 21, .call 15 [.t 20], none⟩] (some [1, 2, 3, 21]))
 (.cond (.t 21)
  (.seq
  (.ops false [
    ⟨some 22, .call 16 [], none⟩,
    ⟨some 6, .mov (.t 22), none⟩] (some [6]))
  .ret)
  .skip))
 (.seq
 (.ops false [
   ⟨some 23, .load 2 true (.t 3) [], none⟩,
   ⟨some 24, .call 17 [.t 23], none⟩,
   ⟨some 7, .alloc 7 [.sl 1 [] .full, .sl 1 [] .full], none⟩,
   ⟨none, .store 2 (.t 7) (.t 24) (some 7), none⟩] (some [1, 2, 3, 7]))
 (.seq
 (.seq
 (.ops true [
   ⟨some 25, .load 2 true (.t 7) [], none⟩,
   ⟨some 26, .call 18 [.t 25], none⟩,
   ⟨some 27, .load 2 true (.t 3) [], none⟩,
   ⟨some 28, .call 19 [.t 27], none⟩,
   ⟨some 29, .bin .neq (.t 26) (.t 28), none⟩] (some [1, 2, 3, 7, 29]))
 (.cond (.t 29)
  (.seq
  (.ops false [
    ⟨some 6, .mov (.k (.bool false)), none⟩] (some [6]))
  .ret)
  .skip))
 (.seq
 (.ops false [
   ⟨some 31, .load 2 true (.t 7) [], none⟩,
   ⟨some 32, .mov (.t 1), none⟩,
   ⟨some 33, .call 20 [.t 31, .t 32], none⟩,
   ⟨some 30, .mov (.t 33), none⟩,
   ⟨some 34, .ext (.t 30) 0, none⟩,
   ⟨some 35, .ext (.t 30) 1, none⟩,
   ⟨some 8, .mov (.t 34), none⟩,
   ⟨some 9, .mov (.t 35), none⟩] (some [1, 2, 3, 7, 8, 9]))
 (.seq
 (.ops false [
   ⟨some 37, .load 2 true (.t 3) [], none⟩,
   ⟨some 38, .mov (.t 1), none⟩,
   ⟨some 39, .call 21 [.t 37, .t 38], none⟩,
   ⟨some 36, .mov (.t 39), none⟩,
   ⟨some 40, .ext (.t 36) 0, none⟩,
   ⟨some 41, .ext (.t 36) 1, none⟩,
   ⟨some 10, .mov (.t 40), none⟩,
   ⟨some 11, .mov (.t 41), none⟩] (some [1, 2, 3, 7, 8, 9, 10, 11]))
 (.seq
 (.ops false [
   ⟨some 43, .load 2 true (.t 7) [], none⟩,
   ⟨some 44, .mov (.t 1), none⟩,
   ⟨some 45, .call 22 [.t 43, .t 44], none⟩,
   ⟨some 42, .mov (.t 45), none⟩,
   ⟨some 46, .ext (.t 42) 0, none⟩,
   ⟨some 47, .ext (.t 42) 1, none⟩,
   ⟨some 12, .mov (.t 46), none⟩,
   ⟨some 13, .mov (.t 47), none⟩] (some [1, 2, 3, 7, 8, 9, 10, 11, 12, 13]))
 (.seq
 (.ops false [
   ⟨some 49, .load 2 true (.t 3) [], none⟩,
   ⟨some 50, .mov (.t 1), none⟩,
   ⟨some 51, .call 23 [.t 49, .t 50], none⟩,
   ⟨some 48, .mov (.t 51), none⟩,
   ⟨some 52, .ext (.t 48) 0, none⟩,
   ⟨some 53, .ext (.t 48) 1, none⟩,
   ⟨some 14, .mov (.t 52), none⟩,
   ⟨some 15, .mov (.t 53), none⟩] (some [2, 3, 7, 8, 9, 10, 11, 12, 13, 14, 15]))
 (.seq
 (.ops false [
   ⟨some 55, .load 2 true (.t 7) [], none⟩,
   ⟨some 56, .mov (.t 2), none⟩,
   ⟨some 57, .call 24 [.t 55, .t 56], none⟩,
   ⟨some 54, .mov (.t 57), none⟩,
   ⟨some 58, .ext (.t 54) 0, none⟩,
   ⟨some 59, .ext (.t 54) 1, none⟩,
   ⟨some 16, .mov (.t 58), none⟩,
   ⟨some 17, .mov (.t 59), none⟩] (some [2, 3, 7, 8, 9, 10, 11, 12, 13, 14, 15, 16, 17]))
 (.seq
 (.ops false [
   ⟨some 61, .load 2 true (.t 3) [], none⟩,
   ⟨some 62, .mov (.t 2), none⟩,
   ⟨some 63, .call 25 [.t 61, .t 62], none⟩,
   ⟨some 60, .mov (.t 63), none⟩,
   ⟨some 64, .ext (.t 60) 0, none⟩,
   ⟨some 65, .ext (.t 60) 1, none⟩,
   ⟨some 18, .mov (.t 64), none⟩,
   ⟨some 19, .mov (.t 65), none⟩] (some [3, 7, 8, 9, 10, 11, 12, 13, 14, 15, 16, 17, 18, 19]))
 (.seq
 (.ops false [
   ⟨some 66, .mov (.t 8), none⟩,
   ⟨some 67, .mov (.t 10), none⟩,
   ⟨some 68, .call 26 [.t 66, .t 67], none⟩,
   ⟨some 69, .mov (.t 68), none⟩,
   ⟨some 70, .mov (.t 9), some (69, true)⟩,
   ⟨some 71, .mov (.t 11), some (69, true)⟩,
   ⟨some 72, .bin .eql (.t 70) (.t 71), some (69, true)⟩,
   ⟨some 73, .pick (.t 69) (.t 72) (.k (.bool false)), none⟩,
   ⟨some 74, .mov (.t 73), none⟩,
   ⟨some 75, .mov (.t 12), some (74, true)⟩,
   ⟨some 76, .mov (.t 14), some (74, true)⟩,
   ⟨some 77, .bin .eql (.t 75) (.t 76), some (74, true)⟩,
   ⟨some 78, .pick (.t 74) (.t 77) (.k (.bool false)), none⟩,
   ⟨some 79, .mov (.t 78), none⟩,
   ⟨some 80, .mov (.t 13), some (79, true)⟩,
   ⟨some 81, .mov (.t 15), some (79, true)⟩,
   ⟨some 82, .bin .eql (.t 80) (.t 81), some (79, true)⟩,
   ⟨some 83, .pick (.t 79) (.t 82) (.k (.bool false)), none⟩,
   ⟨some 84, .mov (.t 83), none⟩,
   ⟨some 85, .mov (.t 16), some (84, true)⟩,
   ⟨some 86, .mov (.t 18), some (84, true)⟩,
   ⟨some 87, .bin .eql (.t 85) (.t 86), some (84, true)⟩,
   ⟨some 88, .pick (.t 84) (.t 87) (.k (.bool false)), none⟩,
   ⟨some 89, .mov (.t 88), none⟩,
   ⟨some 90, .mov (.t 17), some (89, true)⟩,
   ⟨some 91, .mov (.t 19), some (89, true)⟩,
   ⟨some 92, .bin .eql (.t 90) (.t 91), some (89, true)⟩,
   ⟨some 93, .pick (.t 89) (.t 92) (.k (.bool false)), none⟩,
   ⟨some 94, .mov (.t 93), none⟩,
   ⟨some 95, .load 2 true (.t 7) [], some (94, true)⟩,
   ⟨some 96, .load 2 true (.t 3) [], some (94, true)⟩,
   ⟨some 97, .call 27 [.t 95, .t 96], some (94, true)⟩,
   ⟨some 98, .pick (.t 94) (.t 97) (.k (.bool false)), none⟩,
   ⟨some 99, .mov (.t 98), none⟩,
   ⟨some 100, .call 16 [], some (99, true)⟩,
   ⟨some 101, .pick (.t 99) (.t 100) (.k (.bool false)), none⟩,
   ⟨some 6, .mov (.t 101), none⟩] (some [6]))
 .ret)))))))))))

theorem m3 : fmatch Try.prog Try.f3 3 [.tmp 6] v3 = true := by kernel_rfl

/-- steening/steeninglaw07.MouthsAll -/
def v4 : VC :=
 (.seq
 (.ops false [
   ⟨some 2, .box 2 2 (.t 0), none⟩,
   ⟨some 4, .mov (.k (.bool false)), none⟩] (some [1, 2]))
 (.seq
 (.seq
 (.ops false [
   ⟨some 17, .load 2 true (.t 2) [], none⟩,
   ⟨some 18, .mov (.t 1), none⟩,
   ⟨some 19, .call 28 [.t 17, .t 18], none⟩,
   ⟨some 20, .not (.t 19), none⟩,
   ⟨some 21, .mov (.t 20), none⟩,
   ⟨some 22, .mov (.t 1), some (21, false)⟩,
   ⟨some 23, .bin .eql (.t 22) (.k (.int 40)), some (21, false)⟩,
   ⟨some 24, .pick (.t 21) (.k (.bool true)) (.t 23), none⟩] (some [1, 2, 24]))
 (.cond (.t 24)
  (.seq
  (.ops false [
    ⟨some 25, .call 16 [], none⟩,
    ⟨some 4, .mov (.t 25), none⟩] (some [4]))
  .ret)
  .skip))
 (.seq
 (.ops false [
   ⟨some 27, .load 2 true (.t 2) [], none⟩,
   ⟨some 28, .mov (.t 1), none⟩,
   ⟨some 29, .call 29 [.t 27, .t 28], none⟩,
   ⟨some 26, .mov (.t 29), none⟩,
   ⟨some 30, .ext (.t 26) 0, none⟩,
   ⟨some 31, .ext (.t 26) 1, none⟩,
   ⟨some 5, .mov (.t 30), none⟩,
   ⟨some 6, .mov (.t 31), none⟩] (some [1, 2, 5, 6]))
 (.seq
 (.ops false [
   ⟨some 33, .load 2 true (.t 2) [], none⟩,
   ⟨some 34, .mov (.t 1), none⟩,
   ⟨some 35, .bin .add (.t 34) (.k (.int 1)), none⟩,
   ⟨some 36, .call 29 [.t 33, .t 35], none⟩,
   ⟨some 32, .mov (.t 36), none⟩,
   ⟨some 37, .ext (.t 32) 0, none⟩,
   ⟨some 38, .ext (.t 32) 1, none⟩,
   ⟨some 7, .mov (.t 37), none⟩,
   ⟨some 8, .mov (.t 38), none⟩] (some [1, 2, 5, 6, 7, 8]))
 (.seq
 (.ops false [
   ⟨some 40, .load 2 true (.t 2) [], none⟩,
   ⟨some 41, .mov (.t 1), none⟩,
   ⟨some 42, .call 22 [.t 40, .t 41], none⟩,
   ⟨some 39, .mov (.t 42), none⟩,
   ⟨some 43, .ext (.t 39) 0, none⟩,
   ⟨some 44, .ext (.t 39) 1, none⟩,
   ⟨some 9, .mov (.t 43), none⟩,
   ⟨some 10, .mov (.t 44), none⟩] (some [1, 2, 5, 6, 7, 8, 9, 10]))
 (.seq
 (.ops false [
   ⟨some 46, .load 2 true (.t 2) [], none⟩,
   ⟨some 47, .mov (.t 1), none⟩,
   ⟨some 48, .call 24 [.t 46, .t 47], none⟩,
   ⟨some 45, .mov (.t 48), none⟩,
   ⟨some 49, .ext (.t 45) 0, none⟩,
   ⟨some 50, .ext (.t 45) 1, none⟩,
   ⟨some 11, .mov (.t 49), none⟩,
   ⟨some 12, .mov (.t 50), none⟩] (some [1, 2, 5, 6, 7, 8, 9, 10, 11, 12]))
 (.seq
 (.seq
 (.ops false [
   ⟨some 51, .mov (.t 6), none⟩,
   ⟨some 52, .not (.t 51), none⟩,
   ⟨some 53, .mov (.t 52), none⟩,
   ⟨some 54, .mov (.t 8), some (53, false)⟩,
   ⟨some 55, .not (.t 54), some (53, false)⟩,
   ⟨some 56, .pick (.t 53) (.k (.bool true)) (.t 55), none⟩,
   ⟨some 57, .mov (.t 56), none⟩,
   ⟨some 58, .mov (.t 10), some (57, false)⟩,
   ⟨some 59, .bin .neq (.t 58) (.k (.int 0)), some (57, false)⟩,
   ⟨some 60, .pick (.t 57) (.k (.bool true)) (.t 59), none⟩,
   ⟨some 61, .mov (.t 60), none⟩,
   ⟨some 62, .mov (.t 12), some (61, false)⟩,
   ⟨some 63, .call 30 [.t 62], some (61, false)⟩,
   ⟨some 64, .not (.t 63), some (61, false)⟩,
   ⟨some 65, .pick (.t 61) (.k (.bool true)) (.t 64), none⟩,
   ⟨some 66, .mov (.t 65), none⟩,
   ⟨some 67, .mov (.t 9), some (66, false)⟩,
   ⟨some 68, .bin .lss (.t 67) (.k (.int 0)), some (66, false)⟩,
   ⟨some 69, .pick (.t 66) (.k (.bool true)) (.t 68), none⟩,
   ⟨some 70, .mov (.t 69), none⟩,
   ⟨some 71, .mov (.t 9), some (70, false)⟩,
   ⟨some 72, .mov (.t 1), some (70, false)⟩,
   ⟨some 73, .bin .gtr (.t 71) (.t 72), some (70, false)⟩,
   ⟨some 74, .pick (.t 70) (.k (.bool true)) (.t 73), none⟩,
   ⟨some 75, .mov (.t 74), none⟩,
   ⟨some 76, .mov (.t 5), some (75, false)⟩,
   ⟨some 77, .call 31 [.t 76], some (75, false)⟩,
   ⟨some 78, .mov (.t 9), some (75, false)⟩,
   ⟨some 79, .bin .add (.t 77) (.t 78), some (75, false)⟩,
   ⟨some 80, .mov (.t 1), some (75, false)⟩,
   ⟨some 81, .bin .neq (.t 79) (.t 80), some (75, false)⟩,
   ⟨some 82, .pick (.t 75) (.k (.bool true)) (.t 81), none⟩] (some [2, 5, 7, 11, 12, 82]))
 (.cond (.t 82)
  (.seq
  (.ops false [
    ⟨some 4, .mov (.k (.bool false)), none⟩] (some [4]))
  .ret)
  .skip))
 (.seq
 (.ops false [
   ⟨some 13, .mov (.k (.bool false)), none⟩] (some [2, 5, 7, 11, 12, 13]))
 (.seq
 (.seq
 (.ops false [
   ⟨some 14, .mov (.k (.int 0)), none⟩] (some [2, 5, 7, 11, 12, 13, 14]))
 (.block 0
  (.loop
   (.seq
   (.seq
   (.ops false [
     ⟨some 83, .mov (.t 14), none⟩,
     ⟨some 84, .mov (.t 5), none⟩,
     ⟨some 85, .len (.t 84), none⟩,
     ⟨some 86, .bin .lss (.t 83) (.t 85), none⟩] (some [2, 5, 7, 11, 12, 13, 14, 86]))
   (.cond (.t 86)
    .skip
    (.exit 0)))
   (.seq
   (.block 1
    (.ops true [
      ⟨some 89, .mov (.t 13), none⟩,
      ⟨some 90, .mov (.t 89), none⟩,
      ⟨some 91, .fld 0 (.t 2), some (90, false)⟩,
      ⟨some 92, .load 1 false (.t 91) [], some (90, false)⟩,
      ⟨some 93, .mov (.t 14), some (90, false)⟩,
      ⟨some 94, .idx 1 (.t 92) (.t 93), some (90, false)⟩,
      ⟨some 95, .load 1 false (.t 94) [], some (90, false)⟩,
      ⟨some 96, .bin .gtr (.t 95) (.k (.int 0)), some (90, false)⟩,
      ⟨some 97, .mov (.t 96), some (90, false)⟩,
      ⟨some 98, .mov (.t 5), some (97, true)⟩,
      ⟨some 99, .mov (.t 14), some (97, true)⟩,
      ⟨some 100, .idx 1 (.t 98) (.t 99), some (97, true)⟩,
      ⟨some 101, .load 1 false (.t 100) [], some (97, true)⟩,
      ⟨some 102, .fld 1 (.t 2), some (97, true)⟩,
      ⟨some 103, .load 1 false (.t 102) [], some (97, true)⟩,
      ⟨some 104, .mov (.t 14), some (97, true)⟩,
      ⟨some 105, .idx 1 (.t 103) (.t 104), some (97, true)⟩,
      ⟨some 106, .load 1 false (.t 105) [], some (97, true)⟩,
      ⟨some 107, .bin .lss (.t 101) (.t 106), some (97, true)⟩,
      ⟨some 108, .pick (.t 97) (.t 107) (.k (.bool false)), some (90, false)⟩,
      ⟨some 109, .pick (.t 90) (.k (.bool true)) (.t 108), none⟩,
      ⟨some 13, .mov (.t 109), none⟩] (some [2, 5, 7, 11, 12, 13, 14])))
   (.ops false [
     ⟨some 87, .mov (.t 14), none⟩,
     ⟨some 88, .bin .add (.t 87) (.k (.int 1)), none⟩,
     ⟨some 14, .mov (.t 88), none⟩] (some [2, 5, 7, 11, 12, 13, 14])))))))
 (.seq
 (.seq
 (.ops false [
   ⟨some 110, .mov (.t 13), none⟩,
   ⟨some 111, .mov (.t 12), none⟩,
   ⟨some 112, .bin .eql (.t 111) (.k (.int 0)), none⟩,
   ⟨some 113, .bin .bne (.t 110) (.t 112), none⟩,
   ⟨some 114, .mov (.t 113), none⟩,
   ⟨some 115, .mov (.t 12), some (114, false)⟩,
   ⟨some 116, .bin .eql (.t 115) (.k (.int 0)), some (114, false)⟩,
   ⟨some 117, .mov (.t 116), some (114, false)⟩,
   ⟨some 118, .load 2 true (.t 2) [], some (117, true)⟩,
   ⟨some 119, .mov (.t 11), some (117, true)⟩,
   ⟨some 120, .call 32 [.t 118, .t 119], some (117, true)⟩,
   ⟨some 121, .not (.t 120), some (117, true)⟩,
   ⟨some 122, .pick (.t 117) (.t 121) (.k (.bool false)), some (114, false)⟩,
   ⟨some 123, .pick (.t 114) (.k (.bool true)) (.t 122), none⟩] (some [5, 7, 11, 12, 123]))
 (.cond (.t 123)
  (.seq
  (.ops false [
    ⟨some 4, .mov (.k (.bool false)), none⟩] (some [4]))
  .ret)
  .skip))
 (.seq
 (.seq
 (.ops false [
   ⟨some 15, .mov (.k (.int 0)), none⟩] (some [5, 7, 11, 12, 15]))
 (.block 2
  (.loop
   (.seq
   (.seq
   (.ops false [
     ⟨some 124, .mov (.t 15), none⟩,
     ⟨some 125, .mov (.t 5), none⟩,
     ⟨some 126, .len (.t 125), none⟩,
     ⟨some 127, .bin .lss (.t 124) (.t 126), none⟩] (some [5, 7, 11, 12, 15, 127]))
   (.cond (.t 127)
    .skip
    (.exit 2)))
   (.seq
   (.block 3
    (.seq
    (.ops false [
      ⟨some 130, .mov (.t 5), none⟩,
      ⟨some 131, .mov (.t 15), none⟩,
      ⟨some 132, .idx 1 (.t 130) (.t 131), none⟩,
      ⟨some 133, .load 1 false (.t 132) [], none⟩,
      ⟨some 16, .mov (.t 133), none⟩] (some [5, 7, 11, 12, 15, 16]))
    (.seq
    (.seq
    (.ops false [
      ⟨some 134, .mov (.t 12), none⟩,
      ⟨some 135, .bin .eql (.t 134) (.k (.int 0)), none⟩,
      ⟨some 136, .mov (.t 135), none⟩,
      ⟨some 137, .mov (.t 15), some (136, true)⟩,
      ⟨some 138, .mov (.t 11), some (136, true)⟩,
      ⟨some 139, .bin .eql (.t 137) (.t 138), some (136, true)⟩,
      ⟨some 140, .pick (.t 136) (.t 139) (.k (.bool false)), none⟩] (some [5, 7, 11, 12, 15, 16, 140]))
    (.cond (.t 140)
     (.ops false [
       ⟨some 141, .mov (.t 16), none⟩,
       ⟨some 142, .bin .add (.t 141) (.k (.int 1)), none⟩,
       ⟨some 16, .mov (.t 142), none⟩] (some [5, 7, 11, 12, 15, 16]))
     .skip))
    (.seq
    (.ops false [
      ⟨some 143, .mov (.t 7), none⟩,
      ⟨some 144, .mov (.t 15), none⟩,
      ⟨some 145, .idx 1 (.t 143) (.t 144), none⟩,
      ⟨some 146, .load 1 false (.t 145) [], none⟩,
      ⟨some 147, .mov (.t 16), none⟩,
      ⟨some 148, .bin .neq (.t 146) (.t 147), none⟩] (some [5, 7, 11, 12, 15, 148]))
    (.cond (.t 148)
     (.seq
     (.ops false [
       ⟨some 4, .mov (.k (.bool false)), none⟩] (some [4]))
     .ret)
     .skip)))))
   (.ops false [
     ⟨some 128, .mov (.t 15), none⟩,
     ⟨some 129, .bin .add (.t 128) (.k (.int 1)), none⟩,
     ⟨some 15, .mov (.t 129), none⟩] (some [5, 7, 11, 12, 15])))))))
 (.seq
 (.ops false [
   ⟨some 149, .call 16 [], none⟩,
   ⟨some 4, .mov (.t 149), none⟩] (some [4]))
 .ret))))))))))))

theorem m4 : fmatch Try.prog Try.f4 2 [.tmp 4] v4 = true := by kernel_rfl

/-- steening/steeninglaw07.MouthsWorth -/
def v5 : VC :=
 (.seq
 (.ops false [
   ⟨some 3, .box 3 2 (.t 0), none⟩,
   ⟨some 5, .box 5 4 (.t 2), none⟩,
   ⟨some 6, .mov (.k (.bool false)), none⟩] (some [1, 3, 5]))
 (.seq
 (.seq
 (.ops false [
   ⟨some 9, .load 2 true (.t 3) [], none⟩,
   ⟨some 10, .mov (.t 1), none⟩,
   ⟨some 11, .call 28 [.t 9, .t 10], none⟩,
   ⟨some 12, .not (.t 11), none⟩,
   ⟨some 13, .mov (.t 12), none⟩,
   ⟨some 14, .load 2 true (.t 3) [], some (13, false)⟩,
   ⟨some 15, .fld 0 (.t 5), some (13, false)⟩,
   ⟨some 16, .load 1 false (.t 15) [], some (13, false)⟩,
   ⟨some 17, .call 32 [.t 14, .t 16], some (13, false)⟩,
   ⟨some 18, .not (.t 17), some (13, false)⟩,
   ⟨some 19, .pick (.t 13) (.k (.bool true)) (.t 18), none⟩,
   ⟨some 20, .mov (.t 19), none⟩,
   ⟨some 21, .load 2 true (.t 3) [], some (20, false)⟩,
   ⟨some 22, .fld 2 (.t 5), some (20, false)⟩,
   ⟨some 23, .load 1 false (.t 22) [], some (20, false)⟩,
   ⟨some 24, .call 32 [.t 21, .t 23], some (20, false)⟩,
   ⟨some 25, .not (.t 24), some (20, false)⟩,
   ⟨some 26, .pick (.t 20) (.k (.bool true)) (.t 25), none⟩] (some [1, 3, 5, 26]))
 (.cond (.t 26)
  (.seq
  (.ops false [
    ⟨some 27, .call 16 [], none⟩,
    ⟨some 6, .mov (.t 27), none⟩] (some [6]))
  .ret)
  .skip))
 (.seq
 (.ops false [
   ⟨some 29, .load 2 true (.t 3) [], none⟩,
   ⟨some 30, .mov (.t 1), none⟩,
   ⟨some 31, .call 29 [.t 29, .t 30], none⟩,
   ⟨some 28, .mov (.t 31), none⟩,
   ⟨some 32, .ext (.t 28) 0, none⟩,
   ⟨some 33, .ext (.t 28) 1, none⟩,
   ⟨some 7, .mov (.t 32), none⟩,
   ⟨some 8, .mov (.t 33), none⟩] (some [3, 5, 7, 8]))
 (.seq
 (.seq
 (.ops false [
   ⟨some 34, .mov (.t 8), none⟩,
   ⟨some 35, .not (.t 34), none⟩] (some [3, 5, 7, 35]))
 (.cond (.t 35)
  (.seq
  (.ops false [
    ⟨some 6, .mov (.k (.bool false)), none⟩] (some [6]))
  .ret)
  .skip))
 (.seq
 (.seq
 (.ops true [
   ⟨some 36, .fld 0 (.t 5), none⟩,
   ⟨some 37, .load 1 false (.t 36) [], none⟩,
   ⟨some 38, .fld 2 (.t 5), none⟩,
   ⟨some 39, .load 1 false (.t 38) [], none⟩,
   ⟨some 40, .bin .eql (.t 37) (.t 39), none⟩,
   ⟨some 41, .mov (.t 40), none⟩,
   ⟨some 42, .mov (.t 7), some (41, false)⟩,
   ⟨some 43, .fld 0 (.t 5), some (41, false)⟩,
   ⟨some 44, .load 1 false (.t 43) [], some (41, false)⟩,
   ⟨some 45, .idx 1 (.t 42) (.t 44), some (41, false)⟩,
   ⟨some 46, .load 1 false (.t 45) [], some (41, false)⟩,
   ⟨some 47, .bin .eql (.t 46) (.k (.int 0)), some (41, false)⟩,
   ⟨some 48, .pick (.t 41) (.k (.bool true)) (.t 47), none⟩,
   ⟨some 49, .mov (.t 48), none⟩,
   ⟨some 50, .mov (.t 7), some (49, false)⟩,
   ⟨some 51, .fld 2 (.t 5), some (49, false)⟩,
   ⟨some 52, .load 1 false (.t 51) [], some (49, false)⟩,
   ⟨some 53, .idx 1 (.t 50) (.t 52), some (49, false)⟩,
   ⟨some 54, .load 1 false (.t 53) [], some (49, false)⟩,
   ⟨some 55, .fld 1 (.t 3), some (49, false)⟩,
   ⟨some 56, .load 1 false (.t 55) [], some (49, false)⟩,
   ⟨some 57, .fld 2 (.t 5), some (49, false)⟩,
   ⟨some 58, .load 1 false (.t 57) [], some (49, false)⟩,
   ⟨some 59, .idx 1 (.t 56) (.t 58), some (49, false)⟩,
   ⟨some 60, .load 1 false (.t 59) [], some (49, false)⟩,
   ⟨some 61, .bin .eql (.t 54) (.t 60), some (49, false)⟩,
   ⟨some 62, .pick (.t 49) (.k (.bool true)) (.t 61), none⟩] (some [3, 5, 7, 62]))
 (.cond (.t 62)
  (.seq
  (.ops false [
    ⟨some 63, .call 16 [], none⟩,
    ⟨some 6, .mov (.t 63), none⟩] (some [6]))
  .ret)
  .skip))
 (.seq
 (.ops true [
   ⟨some 64, .fld 0 (.t 3), none⟩,
   ⟨some 65, .load 1 false (.t 64) [], none⟩,
   ⟨some 66, .fld 0 (.t 5), none⟩,
   ⟨some 67, .load 1 false (.t 66) [], none⟩,
   ⟨some 68, .idx 1 (.t 65) (.t 67), none⟩,
   ⟨some 69, .load 1 false (.t 68) [], none⟩,
   ⟨some 70, .mov (.t 7), none⟩,
   ⟨some 71, .fld 0 (.t 5), none⟩,
   ⟨some 72, .load 1 false (.t 71) [], none⟩,
   ⟨some 73, .idx 1 (.t 70) (.t 72), none⟩,
   ⟨some 74, .load 1 false (.t 73) [], none⟩,
   ⟨some 75, .bin .mul (.k (.int 2)) (.t 74), none⟩,
   ⟨some 76, .bin .sub (.t 75) (.k (.int 1)), none⟩,
   ⟨some 77, .fld 0 (.t 3), none⟩,
   ⟨some 78, .load 1 false (.t 77) [], none⟩,
   ⟨some 79, .fld 2 (.t 5), none⟩,
   ⟨some 80, .load 1 false (.t 79) [], none⟩,
   ⟨some 81, .idx 1 (.t 78) (.t 80), none⟩,
   ⟨some 82, .load 1 false (.t 81) [], none⟩,
   ⟨some 83, .mov (.t 7), none⟩,
   ⟨some 84, .fld 2 (.t 5), none⟩,
   ⟨some 85, .load 1 false (.t 84) [], none⟩,
   ⟨some 86, .idx 1 (.t 83) (.t 85), none⟩,
   ⟨some 87, .load 1 false (.t 86) [], none⟩,
   ⟨some 88, .bin .mul (.k (.int 2)) (.t 87), none⟩,
   ⟨some 89, .bin .add (.t 88) (.k (.int 1)), none⟩,
   ⟨some 90, .call 33 [.t 69, .t 76, .t 82, .t 89], none⟩,
   ⟨some 91, .not (.t 90), none⟩,
   ⟨some 92, .mov (.t 91), none⟩,
   ⟨some 93, .call 16 [], some (92, true)⟩,
   ⟨some 94, .pick (.t 92) (.t 93) (.k (.bool false)), none⟩,
   ⟨some 6, .mov (.t 94), none⟩] (some [6]))
 .ret))))))

theorem m5 : fmatch Try.prog Try.f5 3 [.tmp 6] v5 = true := by kernel_rfl

/-- steening/steeninglaw07.MouthsBack -/
def v14 : VC :=
 (.seq
 (.ops false [
   ⟨some 2, .box 2 2 (.t 0), none⟩,
   ⟨some 3, .box 3 4 (.t 1), none⟩,
   ⟨some 4, .mov (.k (.bool false)), none⟩] (some [2, 3]))
 (.seq
 (.seq
 (.ops false [
   ⟨some 25, .load 2 true (.t 2) [], none⟩,
   ⟨some 26, .fld 1 (.t 3), none⟩,
   ⟨some 27, .load 1 false (.t 26) [], none⟩,
   ⟨some 28, .call 28 [.t 25, .t 27], none⟩,
   ⟨some 29, .not (.t 28), none⟩,
   ⟨some 30, .mov (.t 29), none⟩,
   ⟨some 31, .load 2 true (.t 2) [], some (30, false)⟩,
   ⟨some 32, .fld 0 (.t 3), some (30, false)⟩,
   ⟨some 33, .load 1 false (.t 32) [], some (30, false)⟩,
   ⟨some 34, .call 32 [.t 31, .t 33], some (30, false)⟩,
   ⟨some 35, .not (.t 34), some (30, false)⟩,
   ⟨some 36, .pick (.t 30) (.k (.bool true)) (.t 35), none⟩,
   ⟨some 37, .mov (.t 36), none⟩,
   ⟨some 38, .fld 3 (.t 3), some (37, false)⟩,
   ⟨some 39, .load 1 false (.t 38) [], some (37, false)⟩,
   ⟨some 40, .call 57 [.t 39], some (37, false)⟩,
   ⟨some 41, .not (.t 40), some (37, false)⟩,
   ⟨some 42, .pick (.t 37) (.k (.bool true)) (.t 41), none⟩] (some [2, 3, 42]))
 (.cond (.t 42)
  (.seq
  (.ops false [
    ⟨some 43, .call 16 [], none⟩,
    ⟨some 4, .mov (.t 43), none⟩] (some [4]))
  .ret)
  .skip))
 (.seq
 (.ops false [
   ⟨some 45, .load 2 true (.t 2) [], none⟩,
   ⟨some 46, .fld 0 (.t 3), none⟩,
   ⟨some 47, .load 1 false (.t 46) [], none⟩,
   ⟨some 48, .fld 3 (.t 3), none⟩,
   ⟨some 49, .load 1 false (.t 48) [], none⟩,
   ⟨some 50, .call 50 [.t 45, .t 47, .t 49], none⟩,
   ⟨some 44, .mov (.t 50), none⟩,
   ⟨some 51, .ext (.t 44) 0, none⟩,
   ⟨some 52, .ext (.t 44) 1, none⟩,
   ⟨some 5, .mov (.t 51), none⟩,
   ⟨some 6, .mov (.t 52), none⟩] (some [2, 3, 5, 6]))
 (.seq
 (.ops false [
   ⟨some 54, .load 2 true (.t 2) [], none⟩,
   ⟨some 55, .call 29 [.t 54, .k (.int 40)], none⟩,
   ⟨some 53, .mov (.t 55), none⟩,
   ⟨some 56, .ext (.t 53) 0, none⟩,
   ⟨some 57, .ext (.t 53) 1, none⟩,
   ⟨some 7, .mov (.t 56), none⟩,
   ⟨some 8, .mov (.t 57), none⟩] (some [2, 3, 5, 6, 7, 8]))
 (.seq
 (.seq
 (.ops true [
   ⟨some 58, .mov (.t 8), none⟩,
   ⟨some 59, .not (.t 58), none⟩,
   ⟨some 60, .mov (.t 59), none⟩,
   ⟨some 61, .mov (.t 6), some (60, false)⟩,
   ⟨some 62, .call 30 [.t 61], some (60, false)⟩,
   ⟨some 63, .not (.t 62), some (60, false)⟩,
   ⟨some 64, .pick (.t 60) (.k (.bool true)) (.t 63), none⟩,
   ⟨some 65, .mov (.t 64), none⟩,
   ⟨some 66, .mov (.t 6), some (65, false)⟩,
   ⟨some 67, .bin .eql (.t 66) (.k (.int 0)), some (65, false)⟩,
   ⟨some 68, .mov (.t 7), some (65, false)⟩,
   ⟨some 69, .fld 0 (.t 3), some (65, false)⟩,
   ⟨some 70, .load 1 false (.t 69) [], some (65, false)⟩,
   ⟨some 71, .idx 1 (.t 68) (.t 70), some (65, false)⟩,
   ⟨some 72, .load 1 false (.t 71) [], some (65, false)⟩,
   ⟨some 73, .fld 3 (.t 3), some (65, false)⟩,
   ⟨some 74, .load 1 false (.t 73) [], some (65, false)⟩,
   ⟨some 75, .bin .geq (.t 72) (.t 74), some (65, false)⟩,
   ⟨some 76, .bin .bne (.t 67) (.t 75), some (65, false)⟩,
   ⟨some 77, .pick (.t 65) (.k (.bool true)) (.t 76), none⟩] (some [2, 3, 5, 6, 77]))
 (.cond (.t 77)
  (.seq
  (.ops false [
    ⟨some 4, .mov (.k (.bool false)), none⟩] (some [4]))
  .ret)
  .skip))
 (.seq
 (.seq
 (.ops false [
   ⟨some 78, .mov (.t 6), none⟩,
   ⟨some 79, .bin .eql (.t 78) (.k (.int 0)), none⟩] (some [2, 3, 5, 79]))
 (.cond (.t 79)
  (.seq
  (.seq
  (.ops false [
    ⟨some 80, .mov (.t 5), none⟩,
    ⟨some 81, .bin .lss (.t 80) (.k (.int 1)), none⟩,
    ⟨some 82, .mov (.t 81), none⟩,
    ⟨some 83, .mov (.t 5), some (82, false)⟩,
    ⟨some 84, .bin .gtr (.t 83) (.k (.int 40)), some (82, false)⟩,
    ⟨some 85, .pick (.t 82) (.k (.bool true)) (.t 84), none⟩] (some [2, 3, 5, 85]))
  (.cond (.t 85)
   (.seq
   (.ops false [
     ⟨some 4, .mov (.k (.bool false)), none⟩] (some [4]))
   .ret)
   .skip))
  (.seq
  (.ops false [
    ⟨some 87, .load 2 true (.t 2) [], none⟩,
    ⟨some 88, .mov (.t 5), none⟩,
    ⟨some 89, .call 29 [.t 87, .t 88], none⟩,
    ⟨some 86, .mov (.t 89), none⟩,
    ⟨some 90, .ext (.t 86) 0, none⟩,
    ⟨some 91, .ext (.t 86) 1, none⟩,
    ⟨some 9, .mov (.t 90), none⟩,
    ⟨some 10, .mov (.t 91), none⟩] (some [2, 3, 5, 9, 10]))
  (.seq
  (.ops false [
    ⟨some 93, .load 2 true (.t 2) [], none⟩,
    ⟨some 94, .mov (.t 5), none⟩,
    ⟨some 95, .bin .sub (.t 94) (.k (.int 1)), none⟩,
    ⟨some 96, .call 24 [.t 93, .t 95], none⟩,
    ⟨some 92, .mov (.t 96), none⟩,
    ⟨some 97, .ext (.t 92) 0, none⟩,
    ⟨some 98, .ext (.t 92) 1, none⟩,
    ⟨some 11, .mov (.t 97), none⟩,
    ⟨some 12, .mov (.t 98), none⟩] (some [2, 3, 9, 10, 11, 12]))
  (.seq
  (.ops true [
    ⟨some 99, .mov (.t 10), none⟩,
    ⟨some 100, .not (.t 99), none⟩,
    ⟨some 101, .mov (.t 100), none⟩,
    ⟨some 102, .mov (.t 9), some (101, false)⟩,
    ⟨some 103, .fld 0 (.t 3), some (101, false)⟩,
    ⟨some 104, .load 1 false (.t 103) [], some (101, false)⟩,
    ⟨some 105, .idx 1 (.t 102) (.t 104), some (101, false)⟩,
    ⟨some 106, .load 1 false (.t 105) [], some (101, false)⟩,
    ⟨some 107, .fld 3 (.t 3), some (101, false)⟩,
    ⟨some 108, .load 1 false (.t 107) [], some (101, false)⟩,
    ⟨some 109, .bin .neq (.t 106) (.t 108), some (101, false)⟩,
    ⟨some 110, .pick (.t 101) (.k (.bool true)) (.t 109), none⟩,
    ⟨some 111, .mov (.t 110), none⟩,
    ⟨some 112, .mov (.t 12), some (111, false)⟩,
    ⟨some 113, .bin .neq (.t 112) (.k (.int 0)), some (111, false)⟩,
    ⟨some 114, .pick (.t 111) (.k (.bool true)) (.t 113), none⟩,
    ⟨some 115, .mov (.t 114), none⟩,
    ⟨some 116, .mov (.t 11), some (115, false)⟩,
    ⟨some 117, .fld 0 (.t 3), some (115, false)⟩,
    ⟨some 118, .load 1 false (.t 117) [], some (115, false)⟩,
    ⟨some 119, .bin .neq (.t 116) (.t 118), some (115, false)⟩,
    ⟨some 120, .pick (.t 115) (.k (.bool true)) (.t 119), none⟩] (some [2, 3, 120]))
  (.cond (.t 120)
   (.seq
   (.ops false [
     ⟨some 4, .mov (.k (.bool false)), none⟩] (some [4]))
   .ret)
   .skip)))))
  .skip))
 (.seq
 (.ops false [
   ⟨some 122, .load 2 true (.t 2) [], none⟩,
   ⟨some 123, .fld 0 (.t 3), none⟩,
   ⟨some 124, .load 1 false (.t 123) [], none⟩,
   ⟨some 125, .fld 1 (.t 3), none⟩,
   ⟨some 126, .load 1 false (.t 125) [], none⟩,
   ⟨some 127, .fld 3 (.t 3), none⟩,
   ⟨some 128, .load 1 false (.t 127) [], none⟩,
   ⟨some 129, .call 55 [.t 122, .t 124, .t 126, .t 128], none⟩,
   ⟨some 121, .mov (.t 129), none⟩,
   ⟨some 130, .ext (.t 121) 0, none⟩,
   ⟨some 131, .ext (.t 121) 1, none⟩,
   ⟨some 13, .mov (.t 130), none⟩,
   ⟨some 14, .mov (.t 131), none⟩] (some [2, 3, 13, 14]))
 (.seq
 (.seq
 (.ops false [
   ⟨some 132, .mov (.t 14), none⟩,
   ⟨some 133, .call 30 [.t 132], none⟩,
   ⟨some 134, .not (.t 133), none⟩] (some [2, 3, 13, 14, 134]))
 (.cond (.t 134)
  (.seq
  (.ops false [
    ⟨some 4, .mov (.k (.bool false)), none⟩] (some [4]))
  .ret)
  .skip))
 (.seq
 (.seq
 (.ops false [
   ⟨some 135, .mov (.t 14), none⟩,
   ⟨some 136, .bin .eql (.t 135) (.k (.int 3)), none⟩] (some [2, 3, 13, 136]))
 (.cond (.t 136)
  (.ops false [
    ⟨some 13, .mov (.k (.int 21)), none⟩] (some [2, 3, 13]))
  .skip))
 (.seq
 (.seq
 (.ops false [
   ⟨some 137, .mov (.t 13), none⟩,
   ⟨some 138, .bin .lss (.t 137) (.k (.int 1)), none⟩,
   ⟨some 139, .mov (.t 138), none⟩,
   ⟨some 140, .mov (.t 13), some (139, false)⟩,
   ⟨some 141, .bin .gtr (.t 140) (.k (.int 21)), some (139, false)⟩,
   ⟨some 142, .pick (.t 139) (.k (.bool true)) (.t 141), none⟩] (some [2, 3, 13, 142]))
 (.cond (.t 142)
  (.seq
  (.ops false [
    ⟨some 4, .mov (.k (.bool false)), none⟩] (some [4]))
  .ret)
  .skip))
 (.seq
 (.seq
 (.ops false [
   ⟨some 143, .mov (.t 13), none⟩,
   ⟨some 144, .bin .sub (.t 143) (.k (.int 1)), none⟩,
   ⟨some 15, .mov (.t 144), none⟩] (some [2, 3, 13, 15]))
 (.block 0
  (.loop
   (.seq
   (.seq
   (.ops false [
     ⟨some 145, .mov (.t 15), none⟩,
     ⟨some 146, .mov (.t 13), none⟩,
     ⟨some 147, .min (.t 146) (.k (.int 20)), none⟩,
     ⟨some 148, .bin .leq (.t 145) (.t 147), none⟩] (some [2, 3, 13, 15, 148]))
   (.cond (.t 148)
    .skip
    (.exit 0)))
   (.seq
   (.block 1
    (.seq
    (.ops true [
      ⟨some 152, .load 2 true (.t 2) [], none⟩,
      ⟨some 153, .fld 0 (.t 3), none⟩,
      ⟨some 154, .load 1 false (.t 153) [], none⟩,
      ⟨some 155, .mov (.t 15), none⟩,
      ⟨some 156, .call 36 [.t 152, .t 154, .t 155], none⟩,
      ⟨some 157, .fld 1 (.t 3), none⟩,
      ⟨some 158, .load 1 false (.t 157) [], none⟩,
      ⟨some 159, .call 29 [.t 156, .t 158], none⟩,
      ⟨some 151, .mov (.t 159), none⟩,
      ⟨some 160, .ext (.t 151) 0, none⟩,
      ⟨some 161, .ext (.t 151) 1, none⟩,
      ⟨some 16, .mov (.t 160), none⟩,
      ⟨some 17, .mov (.t 161), none⟩] (some [2, 3, 13, 15, 16, 17]))
    (.seq
    (.ops true [
      ⟨some 162, .mov (.t 17), none⟩,
      ⟨some 163, .not (.t 162), none⟩,
      ⟨some 164, .mov (.t 163), none⟩,
      ⟨some 165, .mov (.t 16), some (164, false)⟩,
      ⟨some 166, .fld 0 (.t 3), some (164, false)⟩,
      ⟨some 167, .load 1 false (.t 166) [], some (164, false)⟩,
      ⟨some 168, .idx 1 (.t 165) (.t 167), some (164, false)⟩,
      ⟨some 169, .load 1 false (.t 168) [], some (164, false)⟩,
      ⟨some 170, .fld 3 (.t 3), some (164, false)⟩,
      ⟨some 171, .load 1 false (.t 170) [], some (164, false)⟩,
      ⟨some 172, .bin .geq (.t 169) (.t 171), some (164, false)⟩,
      ⟨some 173, .mov (.t 15), some (164, false)⟩,
      ⟨some 174, .mov (.t 13), some (164, false)⟩,
      ⟨some 175, .bin .eql (.t 173) (.t 174), some (164, false)⟩,
      ⟨some 176, .bin .bne (.t 172) (.t 175), some (164, false)⟩,
      ⟨some 177, .pick (.t 164) (.k (.bool true)) (.t 176), none⟩] (some [2, 3, 13, 15, 177]))
    (.cond (.t 177)
     (.seq
     (.ops false [
       ⟨some 4, .mov (.k (.bool false)), none⟩] (some [4]))
     .ret)
     .skip))))
   (.ops false [
     ⟨some 149, .mov (.t 15), none⟩,
     ⟨some 150, .bin .add (.t 149) (.k (.int 1)), none⟩,
     ⟨some 15, .mov (.t 150), none⟩] (some [2, 3, 13, 15])))))))
 (.seq
 (.seq
 (.ops false [
   ⟨some 178, .fld 2 (.t 3), none⟩,
   ⟨some 179, .load 1 false (.t 178) [], none⟩,
   ⟨some 180, .call 58 [.t 179], none⟩,
   ⟨some 181, .not (.t 180), none⟩,
   ⟨some 182, .mov (.t 181), none⟩,
   ⟨some 183, .fld 2 (.t 3), some (182, false)⟩,
   ⟨some 184, .load 1 false (.t 183) [], some (182, false)⟩,
   ⟨some 185, .fld 1 (.t 3), some (182, false)⟩,
   ⟨some 186, .load 1 false (.t 185) [], some (182, false)⟩,
   ⟨some 187, .bin .lss (.t 184) (.t 186), some (182, false)⟩,
   ⟨some 188, .pick (.t 182) (.k (.bool true)) (.t 187), none⟩] (some [2, 3, 188]))
 (.cond (.t 188)
  (.seq
  (.ops false [
    ⟨some 189, .call 16 [], none⟩,
    ⟨some 4, .mov (.t 189), none⟩] (some [4]))
  .ret)
  .skip))
 (.seq
 (.ops false [
   ⟨some 191, .load 2 true (.t 2) [], none⟩,
   ⟨some 192, .fld 1 (.t 3), none⟩,
   ⟨some 193, .load 1 false (.t 192) [], none⟩,
   ⟨some 194, .fld 2 (.t 3), none⟩,
   ⟨some 195, .load 1 false (.t 194) [], none⟩,
   ⟨some 196, .call 52 [.t 191, .t 193, .t 195], none⟩,
   ⟨some 190, .mov (.t 196), none⟩,
   ⟨some 197, .ext (.t 190) 0, none⟩,
   ⟨some 198, .ext (.t 190) 1, none⟩,
   ⟨some 18, .mov (.t 197), none⟩,
   ⟨some 19, .mov (.t 198), none⟩] (some [2, 3, 18, 19]))
 (.seq
 (.ops false [
   ⟨some 200, .load 2 true (.t 2) [], none⟩,
   ⟨some 201, .fld 1 (.t 3), none⟩,
   ⟨some 202, .load 1 false (.t 201) [], none⟩,
   ⟨some 203, .call 29 [.t 200, .t 202], none⟩,
   ⟨some 199, .mov (.t 203), none⟩,
   ⟨some 204, .ext (.t 199) 0, none⟩,
   ⟨some 205, .ext (.t 199) 1, none⟩,
   ⟨some 20, .mov (.t 204), none⟩,
   ⟨some 21, .mov (.t 205), none⟩] (some [2, 3, 18, 19, 20, 21]))
 (.seq
 (.ops false [
   ⟨some 207, .load 2 true (.t 2) [], none⟩,
   ⟨some 208, .fld 2 (.t 3), none⟩,
   ⟨some 209, .load 1 false (.t 208) [], none⟩,
   ⟨some 210, .call 29 [.t 207, .t 209], none⟩,
   ⟨some 206, .mov (.t 210), none⟩,
   ⟨some 211, .ext (.t 206) 0, none⟩,
   ⟨some 212, .ext (.t 206) 1, none⟩,
   ⟨some 22, .mov (.t 211), none⟩,
   ⟨some 23, .mov (.t 212), none⟩] (some [18, 19, 20, 21, 22, 23]))
 (.seq
 (.seq
 (.ops false [
   ⟨some 213, .mov (.t 19), none⟩,
   ⟨some 214, .bin .neq (.t 213) (.k (.int 0)), none⟩,
   ⟨some 215, .mov (.t 214), none⟩,
   ⟨some 216, .mov (.t 21), some (215, false)⟩,
   ⟨some 217, .not (.t 216), some (215, false)⟩,
   ⟨some 218, .pick (.t 215) (.k (.bool true)) (.t 217), none⟩,
   ⟨some 219, .mov (.t 218), none⟩,
   ⟨some 220, .mov (.t 23), some (219, false)⟩,
   ⟨some 221, .not (.t 220), some (219, false)⟩,
   ⟨some 222, .pick (.t 219) (.k (.bool true)) (.t 221), none⟩,
   ⟨some 223, .mov (.t 222), none⟩,
   ⟨some 224, .mov (.t 18), some (223, false)⟩,
   ⟨some 225, .len (.t 224), some (223, false)⟩,
   ⟨some 226, .mov (.t 20), some (223, false)⟩,
   ⟨some 227, .len (.t 226), some (223, false)⟩,
   ⟨some 228, .bin .neq (.t 225) (.t 227), some (223, false)⟩,
   ⟨some 229, .pick (.t 223) (.k (.bool true)) (.t 228), none⟩] (some [18, 20, 22, 229]))
 (.cond (.t 229)
  (.seq
  (.ops false [
    ⟨some 4, .mov (.k (.bool false)), none⟩] (some [4]))
  .ret)
  .skip))
 (.seq
 (.seq
 (.ops false [
   ⟨some 24, .mov (.k (.int 0)), none⟩] (some [18, 20, 22, 24]))
 (.block 2
  (.loop
   (.seq
   (.seq
   (.ops false [
     ⟨some 230, .mov (.t 24), none⟩,
     ⟨some 231, .mov (.t 20), none⟩,
     ⟨some 232, .len (.t 231), none⟩,
     ⟨some 233, .bin .lss (.t 230) (.t 232), none⟩] (some [18, 20, 22, 24, 233]))
   (.cond (.t 233)
    .skip
    (.exit 2)))
   (.seq
   (.block 3
    (.seq
    (.ops true [
      ⟨some 236, .mov (.t 18), none⟩,
      ⟨some 237, .mov (.t 24), none⟩,
      ⟨some 238, .idx 2 (.t 236) (.t 237), none⟩,
      ⟨some 239, .load 2 true (.t 238) [], none⟩,
      ⟨some 240, .mov (.t 20), none⟩,
      ⟨some 241, .mov (.t 24), none⟩,
      ⟨some 242, .idx 1 (.t 240) (.t 241), none⟩,
      ⟨some 243, .load 1 false (.t 242) [], none⟩,
      ⟨some 244, .mov (.t 22), none⟩,
      ⟨some 245, .mov (.t 24), none⟩,
      ⟨some 246, .idx 1 (.t 244) (.t 245), none⟩,
      ⟨some 247, .load 1 false (.t 246) [], none⟩,
      ⟨some 248, .build [.int 0, .int 0] [(0, 1, .t 243), (1, 1, .t 247)], none⟩,
      ⟨some 249, .bin (.sne 2) (.t 239) (.t 248), none⟩] (some [18, 20, 22, 24, 249]))
    (.cond (.t 249)
     (.seq
     (.ops false [
       ⟨some 4, .mov (.k (.bool false)), none⟩] (some [4]))
     .ret)
     .skip)))
   (.ops false [
     ⟨some 234, .mov (.t 24), none⟩,
     ⟨some 235, .bin .add (.t 234) (.k (.int 1)), none⟩,
     ⟨some 24, .mov (.t 235), none⟩] (some [18, 20, 22, 24])))))))
 (.seq
 (.ops false [
   ⟨some 250, .call 16 [], none⟩,
   ⟨some 4, .mov (.t 250), none⟩] (some [4]))
 .ret))))))))))))))))))

theorem m14 : fmatch Try.prog Try.f14 2 [.tmp 4] v14 = true := by kernel_rfl

/-- steening/steeninglaw07.Far -/
def v15 : VC :=
 (.seq
 (.ops false [
   ⟨some 1, .box 1 2 (.t 0), none⟩,
   ⟨some 2, .mov (.k (.bool false)), none⟩] (some [1]))
 (.seq
 (.ops false [
   ⟨some 3, .fld 0 (.t 1), none⟩,
   ⟨some 4, .load 1 false (.t 3) [], none⟩,
   ⟨some 5, .len (.t 4), none⟩,
   ⟨some 6, .bin .gtr (.t 5) (.k (.int 40)), none⟩,
   ⟨some 7, .mov (.t 6), none⟩,
   ⟨some 8, .fld 1 (.t 1), some (7, false)⟩,
   ⟨some 9, .load 1 false (.t 8) [], some (7, false)⟩,
   ⟨some 10, .len (.t 9), some (7, false)⟩,
   ⟨some 11, .bin .gtr (.t 10) (.k (.int 40)), some (7, false)⟩,
   ⟨some 12, .pick (.t 7) (.k (.bool true)) (.t 11), none⟩,
   ⟨some 2, .mov (.t 12), none⟩] (some [2]))
 .ret))

theorem m15 : fmatch Try.prog Try.f15 1 [.tmp 2] v15 = true := by kernel_rfl

/-- steening/steeninglaw07.works -/
def v16 : VC :=
 (.seq
 (.ops false [
   ⟨some 0, .mov (.k (.bool false)), none⟩] (some []))
 (.seq
 (.ops false [
   ⟨some 16, .call 59 [], none⟩,
   ⟨some 15, .mov (.t 16), none⟩,
   ⟨some 17, .ext (.t 15) 0, none⟩,
   ⟨some 18, .ext (.t 15) 1, none⟩,
   ⟨some 1, .alloc 1 [.sl 1 [] .full, .sl 1 [] .full], none⟩,
   ⟨some 2, .alloc 2 [.sl 1 [] .full, .sl 1 [] .full], none⟩,
   ⟨none, .store 2 (.t 1) (.t 17) (some 1), none⟩,
   ⟨none, .store 2 (.t 2) (.t 18) (some 2), none⟩] (some [1, 2]))
 (.seq
 (.ops false [
   ⟨some 20, .load 2 true (.t 1) [], none⟩,
   ⟨some 21, .call 20 [.t 20, .k (.int 6)], none⟩,
   ⟨some 19, .mov (.t 21), none⟩,
   ⟨some 22, .ext (.t 19) 0, none⟩,
   ⟨some 23, .ext (.t 19) 1, none⟩,
   ⟨some 3, .mov (.t 22), none⟩,
   ⟨some 4, .mov (.t 23), none⟩] (some [1, 2, 3, 4]))
 (.seq
 (.ops false [
   ⟨some 25, .load 2 true (.t 2) [], none⟩,
   ⟨some 26, .call 22 [.t 25, .k (.int 6)], none⟩,
   ⟨some 24, .mov (.t 26), none⟩,
   ⟨some 27, .ext (.t 24) 0, none⟩,
   ⟨some 28, .ext (.t 24) 1, none⟩,
   ⟨some 5, .mov (.t 27), none⟩,
   ⟨some 6, .mov (.t 28), none⟩] (some [1, 3, 4, 5, 6]))
 (.seq
 (.ops false [
   ⟨some 30, .load 2 true (.t 1) [], none⟩,
   ⟨some 31, .call 24 [.t 30, .k (.int 5)], none⟩,
   ⟨some 29, .mov (.t 31), none⟩,
   ⟨some 32, .ext (.t 29) 0, none⟩,
   ⟨some 33, .ext (.t 29) 1, none⟩,
   ⟨some 7, .mov (.t 32), none⟩,
   ⟨some 8, .mov (.t 33), none⟩] (some [1, 3, 4, 5, 6, 7, 8]))
 (.seq
 (.ops false [
   ⟨some 35, .load 2 true (.t 1) [], none⟩,
   ⟨some 36, .call 39 [.t 35, .k (.int 4)], none⟩,
   ⟨some 34, .mov (.t 36), none⟩,
   ⟨some 37, .ext (.t 34) 0, none⟩,
   ⟨some 38, .ext (.t 34) 1, none⟩,
   ⟨some 9, .mov (.t 37), none⟩,
   ⟨some 10, .mov (.t 38), none⟩] (some [1, 3, 4, 5, 6, 7, 8, 9, 10]))
 (.seq
 (.ops false [
   ⟨some 40, .load 2 true (.t 1) [], none⟩,
   ⟨some 41, .call 34 [.t 40, .k (.int 4)], none⟩,
   ⟨some 39, .mov (.t 41), none⟩,
   ⟨some 42, .ext (.t 39) 0, none⟩,
   ⟨some 43, .ext (.t 39) 1, none⟩,
   ⟨some 11, .mov (.t 42), none⟩,
   ⟨some 12, .mov (.t 43), none⟩] (some [1, 3, 4, 5, 6, 7, 8, 9, 10, 11, 12]))
 (.seq
 (.ops false [
   ⟨some 45, .load 2 true (.t 1) [], none⟩,
   ⟨some 46, .call 41 [.t 45], none⟩,
   ⟨some 44, .mov (.t 46), none⟩,
   ⟨some 47, .ext (.t 44) 0, none⟩,
   ⟨some 48, .ext (.t 44) 1, none⟩,
   ⟨some 13, .mov (.t 47), none⟩,
   ⟨some 14, .mov (.t 48), none⟩] (some [3, 4, 5, 6, 7, 8, 9, 10, 11, 12, 13, 14]))
 (.seq
 (.ops false [
   ⟨some 49, .mov (.t 4), none⟩,
   ⟨some 50, .bin .eql (.t 49) (.k (.int 0)), none⟩,
   ⟨some 51, .mov (.t 50), none⟩,
   ⟨some 52, .mov (.t 6), some (51, true)⟩,
   ⟨some 53, .bin .eql (.t 52) (.k (.int 0)), some (51, true)⟩,
   ⟨some 54, .pick (.t 51) (.t 53) (.k (.bool false)), none⟩,
   ⟨some 55, .mov (.t 54), none⟩,
   ⟨some 56, .mov (.t 8), some (55, true)⟩,
   ⟨some 57, .bin .eql (.t 56) (.k (.int 0)), some (55, true)⟩,
   ⟨some 58, .pick (.t 55) (.t 57) (.k (.bool false)), none⟩,
   ⟨some 59, .mov (.t 58), none⟩,
   ⟨some 60, .mov (.t 10), some (59, true)⟩,
   ⟨some 61, .bin .eql (.t 60) (.k (.int 0)), some (59, true)⟩,
   ⟨some 62, .pick (.t 59) (.t 61) (.k (.bool false)), none⟩,
   ⟨some 63, .mov (.t 62), none⟩,
   ⟨some 64, .mov (.t 12), some (63, true)⟩,
   ⟨some 65, .bin .eql (.t 64) (.k (.int 0)), some (63, true)⟩,
   ⟨some 66, .pick (.t 63) (.t 65) (.k (.bool false)), none⟩,
   ⟨some 67, .mov (.t 66), none⟩,
   ⟨some 68, .mov (.t 14), some (67, true)⟩,
   ⟨some 69, .bin .eql (.t 68) (.k (.int 0)), some (67, true)⟩,
   ⟨some 70, .pick (.t 67) (.t 69) (.k (.bool false)), none⟩,
   ⟨some 71, .mov (.t 70), none⟩,
   ⟨some 72, .mov (.t 3), some (71, true)⟩,
   ⟨some 73, .bslice 1 [.k (.int 3), .k (.int 2), .k (.int 1)], some (71, true)⟩,
   ⟨some 74, .call 26 [.t 72, .t 73], some (71, true)⟩,
   ⟨some 75, .pick (.t 71) (.t 74) (.k (.bool false)), none⟩,
   ⟨some 76, .mov (.t 75), none⟩,
   ⟨some 77, .mov (.t 5), some (76, true)⟩,
   ⟨some 78, .bin .eql (.t 77) (.k (.int 3)), some (76, true)⟩,
   ⟨some 79, .pick (.t 76) (.t 78) (.k (.bool false)), none⟩,
   ⟨some 80, .mov (.t 79), none⟩,
   ⟨some 81, .mov (.t 7), some (80, true)⟩,
   ⟨some 82, .bin .eql (.t 81) (.k (.int 2)), some (80, true)⟩,
   ⟨some 83, .pick (.t 80) (.t 82) (.k (.bool false)), none⟩,
   ⟨some 84, .mov (.t 83), none⟩,
   ⟨some 85, .mov (.t 9), some (84, true)⟩,
   ⟨some 86, .build [.int 0, .int 0] [(0, 1, .k (.int 20)), (1, 1, .k (.int 9))], some (84, true)⟩,
   ⟨some 87, .build [.int 0, .int 0] [(0, 1, .k (.int 4)), (1, 1, .k (.int 3))], some (84, true)⟩,
   ⟨some 88, .build [.int 0, .int 0] [(0, 1, .k (.int 4)), (1, 1, .k (.int 9))], some (84, true)⟩,
   ⟨some 89, .bslice 2 [.t 86, .t 87, .t 88], some (84, true)⟩,
   ⟨some 90, .call 49 [.t 85, .t 89], some (84, true)⟩,
   ⟨some 91, .pick (.t 84) (.t 90) (.k (.bool false)), none⟩,
   ⟨some 92, .mov (.t 91), none⟩,
   ⟨some 93, .mov (.t 11), some (92, true)⟩,
   ⟨some 94, .bslice 1 [.k (.int 2), .k (.int 1), .k (.int 1)], some (92, true)⟩,
   ⟨some 95, .call 26 [.t 93, .t 94], some (92, true)⟩,
   ⟨some 96, .pick (.t 92) (.t 95) (.k (.bool false)), none⟩,
   ⟨some 97, .mov (.t 96), none⟩,
   ⟨some 98, .mov (.t 13), some (97, true)⟩,
   ⟨some 99, .bin .eql (.t 98) (.k (.int 4)), some (97, true)⟩,
   ⟨some 100, .pick (.t 97) (.t 99) (.k (.bool false)), none⟩,
   ⟨some 0, .mov (.t 100), none⟩] (some [0]))
 .ret)))))))))

theorem m16 : fmatch Try.prog Try.f16 0 [.tmp 0] v16 = true := by kernel_rfl

/-- steening/steeningref07.Copy -/
def v17 : VC :=
 (.seq
 (.ops false [
   ⟨some 1, .box 1 2 (.t 0), none⟩,
   ⟨some 2, .alloc 2 [.sl 1 [] .full, .sl 1 [] .full], none⟩] (some [1, 2]))
 (.seq
 (.ops true [
   ⟨some 3, .bslice 1 [], none⟩,
   ⟨some 4, .fld 0 (.t 1), none⟩,
   ⟨some 5, .load 1 false (.t 4) [2], none⟩,
   ⟨some 6, .app 6 1 8 (.t 3) (.t 5), none⟩,
   ⟨some 7, .bslice 1 [], none⟩,
   ⟨some 8, .fld 1 (.t 1), none⟩,
   ⟨some 9, .load 1 false (.t 8) [2], none⟩,
   ⟨some 10, .app 10 1 8 (.t 7) (.t 9), none⟩,
   ⟨some 11, .build [.sl 1 [] .sh, .sl 1 [] .sh] [(0, 1, .t 6), (1, 1, .t 10)], none⟩,
   ⟨none, .store 2 (.t 2) (.t 11) (some 2), none⟩] (some [2]))
 .ret))

theorem m17 : fmatch Try.prog Try.f17 1 [.cell 2 24] v17 = true := by kernel_rfl

/-- steening/mouths.Check -/
def v18 : VC :=
 (.seq
 (.ops false [
   ⟨some 1, .box 1 2 (.t 0), none⟩,
   ⟨some 2, .mov (.k (.int 0)), none⟩] (some [1]))
 (.seq
 (.seq
 (.ops false [
   ⟨some 3, .fld 0 (.t 1), none⟩,
   ⟨some 4, .load 1 false (.t 3) [], none⟩,
   ⟨some 5, .len (.t 4), none⟩,
   ⟨some 6, .bin .gtr (.t 5) (.k (.int 5)), none⟩,
   ⟨some 7, .mov (.t 6), none⟩,
   ⟨some 8, .fld 1 (.t 1), some (7, false)⟩,
   ⟨some 9, .load 1 false (.t 8) [], some (7, false)⟩,
   ⟨some 10, .len (.t 9), some (7, false)⟩,
   ⟨some 11, .fld 0 (.t 1), some (7, false)⟩,
   ⟨some 12, .load 1 false (.t 11) [], some (7, false)⟩,
   ⟨some 13, .len (.t 12), some (7, false)⟩,
   ⟨some 14, .bin .neq (.t 10) (.t 13), some (7, false)⟩,
   ⟨some 15, .pick (.t 7) (.k (.bool true)) (.t 14), none⟩,
   ⟨some 16, .mov (.t 15), none⟩,
   ⟨some 17, .fld 0 (.t 1), some (16, false)⟩,
   ⟨some 18, .load 1 false (.t 17) [], some (16, false)⟩,
   ⟨some 19, .call 60 [.k (.int 20), .t 18], some (16, false)⟩,
   ⟨some 20, .not (.t 19), some (16, false)⟩,
   ⟨some 21, .pick (.t 16) (.k (.bool true)) (.t 20), none⟩,
   ⟨some 22, .mov (.t 21), none⟩,
   ⟨some 23, .fld 1 (.t 1), some (22, false)⟩,
   ⟨some 24, .load 1 false (.t 23) [], some (22, false)⟩,
   ⟨some 25, .call 60 [.k (.int 20), .t 24], some (22, false)⟩,
   ⟨some 26, .not (.t 25), some (22, false)⟩,
   ⟨some 27, .pick (.t 22) (.k (.bool true)) (.t 26), none⟩] (some [27]))
 (.cond (.t 27)
  (.seq
  (.ops false [
    ⟨some 2, .mov (.k (.int 70)), none⟩] (some [2]))
  .ret)
  .skip))
 (.seq
 (.ops false [
   ⟨some 2, .mov (.k (.int 0)), none⟩] (some [2]))
 .ret)))

theorem m18 : fmatch Try.prog Try.f18 1 [.tmp 2] v18 = true := by kernel_rfl

/-- steening/steeningref07.Check -/
def v19 : VC :=
 (.seq
 (.ops false [
   ⟨some 1, .box 1 2 (.t 0), none⟩,
   ⟨some 2, .mov (.k (.int 0)), none⟩] (some [1]))
 (.seq
 (.seq
 (.ops false [
   ⟨some 4, .fld 0 (.t 1), none⟩,
   ⟨some 5, .load 1 false (.t 4) [], none⟩,
   ⟨some 6, .len (.t 5), none⟩,
   ⟨some 7, .bin .gtr (.t 6) (.k (.int 5)), none⟩,
   ⟨some 8, .mov (.t 7), none⟩,
   ⟨some 9, .fld 1 (.t 1), some (8, false)⟩,
   ⟨some 10, .load 1 false (.t 9) [], some (8, false)⟩,
   ⟨some 11, .len (.t 10), some (8, false)⟩,
   ⟨some 12, .fld 0 (.t 1), some (8, false)⟩,
   ⟨some 13, .load 1 false (.t 12) [], some (8, false)⟩,
   ⟨some 14, .len (.t 13), some (8, false)⟩,
   ⟨some 15, .bin .neq (.t 11) (.t 14), some (8, false)⟩,
   ⟨some 16, .pick (.t 8) (.k (.bool true)) (.t 15), none⟩] (some [1, 16]))
 (.cond (.t 16)
  (.seq
  (.ops false [
    ⟨some 2, .mov (.k (.int 70)), none⟩] (some [2]))
  .ret)
  .skip))
 (.seq
 (.seq
 (.ops false [
   ⟨some 3, .mov (.k (.int 0)), none⟩] (some [1, 3]))
 (.block 0
  (.loop
   (.seq
   (.seq
   (.ops false [
     ⟨some 17, .mov (.t 3), none⟩,
     ⟨some 18, .fld 0 (.t 1), none⟩,
     ⟨some 19, .load 1 false (.t 18) [], none⟩,
     ⟨some 20, .len (.t 19), none⟩,
     ⟨some 21, .bin .lss (.t 17) (.t 20), none⟩] (some [1, 3, 21]))
   (.cond (.t 21)
    .skip
    (.exit 0)))
   (.seq
   (.block 1
    (.seq
    (.ops false [
      ⟨some 24, .fld 0 (.t 1), none⟩,
      ⟨some 25, .load 1 false (.t 24) [], none⟩,
      ⟨some 26, .mov (.t 3), none⟩,
      ⟨some 27, .idx 1 (.t 25) (.t 26), none⟩,
      ⟨some 28, .load 1 false (.t 27) [], none⟩,
      ⟨some 29, .call 61 [.t 28, .k (.int 0), .k (.int 20)], none⟩,
      ⟨some 30, .not (.t 29), none⟩,
      ⟨some 31, .mov (.t 30), none⟩,
      ⟨some 32, .fld 1 (.t 1), some (31, false)⟩,
      ⟨some 33, .load 1 false (.t 32) [], some (31, false)⟩,
      ⟨some 34, .mov (.t 3), some (31, false)⟩,
      ⟨some 35, .idx 1 (.t 33) (.t 34), some (31, false)⟩,
      ⟨some 36, .load 1 false (.t 35) [], some (31, false)⟩,
      ⟨some 37, .call 61 [.t 36, .k (.int 0), .k (.int 20)], some (31, false)⟩,
      ⟨some 38, .not (.t 37), some (31, false)⟩,
      ⟨some 39, .pick (.t 31) (.k (.bool true)) (.t 38), none⟩] (some [1, 3, 39]))
    (.cond (.t 39)
     (.seq
     (.ops false [
       ⟨some 2, .mov (.k (.int 70)), none⟩] (some [2]))
     .ret)
     .skip)))
   (.ops false [
     ⟨some 22, .mov (.t 3), none⟩,
     ⟨some 23, .bin .add (.t 22) (.k (.int 1)), none⟩,
     ⟨some 3, .mov (.t 23), none⟩] (some [1, 3])))))))
 (.seq
 (.ops false [
   ⟨some 2, .mov (.k (.int 0)), none⟩] (some [2]))
 .ret))))

theorem m19 : fmatch Try.prog Try.f19 1 [.tmp 2] v19 = true := by kernel_rfl

/-- steening/mouths.Gauges -/
def v20 : VC :=
 (.seq
 (.ops false [
   ⟨some 2, .box 2 2 (.t 0), none⟩,
   ⟨some 4, .nils 4 1, none⟩,
   ⟨some 5, .mov (.k (.int 0)), none⟩] (some [1, 2]))
 (.seq
 (.seq
 (.ops true [
   ⟨some 7, .load 2 true (.t 2) [], none⟩,
   ⟨some 8, .mov (.t 1), none⟩,
   ⟨some 9, .call 63 [.t 8], none⟩,
   ⟨some 10, .call 62 [.t 7, .t 9], none⟩,
   ⟨some 6, .mov (.t 10), none⟩] (some [1, 2, 6]))
 (.seq
 (.ops false [
   ⟨some 11, .mov (.t 6), none⟩,
   ⟨some 12, .bin .neq (.t 11) (.k (.int 0)), none⟩] (some [1, 2, 6, 12]))
 (.cond (.t 12)
  (.seq
  (.ops false [
    ⟨some 13, .mov (.t 6), none⟩,
    ⟨some 4, .nils 501 1, none⟩,
    ⟨some 5, .mov (.t 13), none⟩] (some [4, 5]))
  .ret)
  .skip)))
 (.seq
 (.ops false [
   ⟨some 14, .load 2 true (.t 2) [], none⟩,
   ⟨some 15, .mov (.t 1), none⟩,
   ⟨some 16, .call 64 [.t 14, .t 15], none⟩,
   ⟨some 4, .mov (.t 16), none⟩,
   ⟨some 5, .mov (.k (.int 0)), none⟩] (some [4, 5]))
 .ret)))

theorem m20 : fmatch Try.prog Try.f20 2 [.tmp 4, .tmp 5] v20 = true := by kernel_rfl

/-- steening/steeningref07.Gauges -/
def v21 : VC :=
 (.seq
 (.ops false [
   ⟨some 2, .box 2 2 (.t 0), none⟩,
   ⟨some 4, .nils 4 1, none⟩,
   ⟨some 5, .mov (.k (.int 0)), none⟩] (some [1, 2]))
 (.seq
 (.seq
 (.ops true [
   ⟨some 7, .load 2 true (.t 2) [], none⟩,
   ⟨some 8, .mov (.t 1), none⟩,
   ⟨some 9, .call 58 [.t 8], none⟩,
   ⟨some 10, .call 65 [.t 7, .t 9], none⟩,
   ⟨some 6, .mov (.t 10), none⟩] (some [1, 2, 6]))
 (.seq
 (.ops false [
   ⟨some 11, .mov (.t 6), none⟩,
   ⟨some 12, .bin .neq (.t 11) (.k (.int 0)), none⟩] (some [1, 2, 6, 12]))
 (.cond (.t 12)
  (.seq
  (.ops false [
    ⟨some 13, .mov (.t 6), none⟩,
    ⟨some 4, .nils 501 1, none⟩,
    ⟨some 5, .mov (.t 13), none⟩] (some [4, 5]))
  .ret)
  .skip)))
 (.seq
 (.ops false [
   ⟨some 14, .load 2 true (.t 2) [], none⟩,
   ⟨some 15, .mov (.t 1), none⟩,
   ⟨some 16, .call 66 [.t 14, .t 15], none⟩,
   ⟨some 4, .mov (.t 16), none⟩,
   ⟨some 5, .mov (.k (.int 0)), none⟩] (some [4, 5]))
 .ret)))

theorem m21 : fmatch Try.prog Try.f21 2 [.tmp 4, .tmp 5] v21 = true := by kernel_rfl

/-- steening/mouths.Over -/
def v22 : VC :=
 (.seq
 (.ops false [
   ⟨some 2, .box 2 2 (.t 0), none⟩,
   ⟨some 4, .mov (.k (.int 0)), none⟩,
   ⟨some 5, .mov (.k (.int 0)), none⟩] (some [1, 2]))
 (.seq
 (.ops false [
   ⟨some 9, .load 2 true (.t 2) [], none⟩,
   ⟨some 10, .mov (.t 1), none⟩,
   ⟨some 11, .call 20 [.t 9, .t 10], none⟩,
   ⟨some 8, .mov (.t 11), none⟩,
   ⟨some 12, .ext (.t 8) 0, none⟩,
   ⟨some 13, .ext (.t 8) 1, none⟩,
   ⟨some 6, .mov (.t 12), none⟩,
   ⟨some 7, .mov (.t 13), none⟩] (some [1, 6, 7]))
 (.seq
 (.seq
 (.ops false [
   ⟨some 14, .mov (.t 7), none⟩,
   ⟨some 15, .bin .neq (.t 14) (.k (.int 0)), none⟩] (some [1, 6, 7, 15]))
 (.cond (.t 15)
  (.seq
  (.ops false [
    ⟨some 16, .mov (.t 7), none⟩,
    ⟨some 4, .mov (.k (.int 0)), none⟩,
    ⟨some 5, .mov (.t 16), none⟩] (some [4, 5]))
  .ret)
  .skip))
 (.seq
 (.ops false [
   ⟨some 17, .mov (.t 1), none⟩,
   ⟨some 18, .mov (.t 6), none⟩,
   ⟨some 19, .call 67 [.t 18], none⟩,
   ⟨some 20, .bin .sub (.t 17) (.t 19), none⟩,
   ⟨some 4, .mov (.t 20), none⟩,
   ⟨some 5, .mov (.k (.int 0)), none⟩] (some [4, 5]))
 .ret))))

theorem m22 : fmatch Try.prog Try.f22 2 [.tmp 4, .tmp 5] v22 = true := by kernel_rfl

/-- steening/steeningref07.Over -/
def v23 : VC :=
 (.seq
 (.ops false [
   ⟨some 2, .box 2 2 (.t 0), none⟩,
   ⟨some 4, .mov (.k (.int 0)), none⟩,
   ⟨some 5, .mov (.k (.int 0)), none⟩] (some [1, 2]))
 (.seq
 (.seq
 (.ops true [
   ⟨some 7, .load 2 true (.t 2) [], none⟩,
   ⟨some 8, .mov (.t 1), none⟩,
   ⟨some 9, .call 58 [.t 8], none⟩,
   ⟨some 10, .call 65 [.t 7, .t 9], none⟩,
   ⟨some 6, .mov (.t 10), none⟩] (some [1, 2, 6]))
 (.seq
 (.ops false [
   ⟨some 11, .mov (.t 6), none⟩,
   ⟨some 12, .bin .neq (.t 11) (.k (.int 0)), none⟩] (some [1, 2, 6, 12]))
 (.cond (.t 12)
  (.seq
  (.ops false [
    ⟨some 13, .mov (.t 6), none⟩,
    ⟨some 4, .mov (.k (.int 0)), none⟩,
    ⟨some 5, .mov (.t 13), none⟩] (some [4, 5]))
  .ret)
  .skip)))
 (.seq
 (.ops false [
   ⟨some 14, .mov (.t 1), none⟩,
   ⟨some 15, .load 2 true (.t 2) [], none⟩,
   ⟨some 16, .mov (.t 1), none⟩,
   ⟨some 17, .call 66 [.t 15, .t 16], none⟩,
   ⟨some 18, .call 31 [.t 17], none⟩,
   ⟨some 19, .bin .sub (.t 14) (.t 18), none⟩,
   ⟨some 4, .mov (.t 19), none⟩,
   ⟨some 5, .mov (.k (.int 0)), none⟩] (some [4, 5]))
 .ret)))

theorem m23 : fmatch Try.prog Try.f23 2 [.tmp 4, .tmp 5] v23 = true := by kernel_rfl

/-- steening/mouths.Turn -/
def v24 : VC :=
 (.seq
 (.ops false [
   ⟨some 2, .box 2 2 (.t 0), none⟩,
   ⟨some 3, .box 3 1 (.t 1), none⟩,
   ⟨some 4, .alloc 4 [.int 0], none⟩,
   ⟨some 5, .alloc 5 [.int 0], none⟩] (some [2, 3, 4, 5]))
 (.seq
 (.seq
 (.ops true [
   ⟨some 9, .load 2 true (.t 2) [], none⟩,
   ⟨some 10, .load 1 false (.t 3) [], none⟩,
   ⟨some 11, .call 68 [.t 10, .k (.int 0), .k (.int 39)], none⟩,
   ⟨some 12, .call 62 [.t 9, .t 11], none⟩,
   ⟨some 6, .mov (.t 12), none⟩] (some [2, 3, 4, 5, 6]))
 (.seq
 (.ops false [
   ⟨some 13, .mov (.t 6), none⟩,
   ⟨some 14, .bin .neq (.t 13) (.k (.int 0)), none⟩] (some [2, 3, 4, 5, 6, 14]))
 (.cond (.t 14)
  (.seq
  (.ops false [
    ⟨some 15, .mov (.t 6), none⟩,
    ⟨none, .store 1 (.t 4) (.k (.int 0)) (some 4), none⟩,
    ⟨none, .store 1 (.t 5) (.t 15) (some 5), none⟩] (some [4, 5]))
  .ret)
  .skip)))
 (.seq
 (.seq
 (.ops false [
   ⟨some 16, .load 2 true (.t 2) [], none⟩,
   ⟨some 17, .build [.sl 1 [] .sh, .sl 1 [] .sh, .int 0, .int 0, .int 0, .int 0, .int 0] [(0, 2, .t 16)], none⟩,
   ⟨some 18, .mkm 69 [.t 17], none⟩] (some [3, 4, 5, 18]))
 (.block 0
  (.range (.t 18) [19, 20]
   (.seq
   (.ops false [
     ⟨some 7, .mov (.t 19), none⟩] (some [3, 4, 5, 7, 20]))
   (.ops false [
     ⟨some 8, .mov (.t 20), none⟩] (some [3, 4, 5, 7, 8])))
   (.block 1
    (.seq
    (.seq
    (.ops false [
      ⟨some 21, .mov (.t 7), none⟩,
      ⟨some 22, .load 1 false (.t 3) [], none⟩,
      ⟨some 23, .bin .eql (.t 21) (.t 22), none⟩,
      ⟨some 24, .mov (.t 23), none⟩,
      ⟨some 25, .mov (.t 8), some (24, true)⟩,
      ⟨some 26, .bin .geq (.t 25) (.k (.int 0)), some (24, true)⟩,
      ⟨some 27, .pick (.t 24) (.t 26) (.k (.bool false)), none⟩] (some [3, 4, 5, 7, 8, 27]))
    (.cond (.t 27)
     (.seq
     (.ops false [
       ⟨some 28, .mov (.t 8), none⟩,
       ⟨none, .store 1 (.t 4) (.t 28) (some 4), none⟩,
       ⟨none, .store 1 (.t 5) (.k (.int 0)) (some 5), none⟩] (some []))
     .ret)
     .skip))
    (.seq
    (.ops false [
      ⟨some 29, .mov (.t 7), none⟩,
      ⟨some 30, .load 1 false (.t 3) [], none⟩,
      ⟨some 31, .bin .eql (.t 29) (.t 30), none⟩] (some [31]))
    (.cond (.t 31)
     (.exit 0)
     .skip)))))))
 (.seq
 (.ops false [
   ⟨none, .store 1 (.t 4) (.k (.int 0)) (some 4), none⟩,
   ⟨none, .store 1 (.t 5) (.k (.int 3)) (some 5), none⟩] (some [4, 5]))
 .ret))))

theorem m24 : fmatch Try.prog Try.f24 2 [.cell 4 3, .cell 5 28] v24 = true := by kernel_rfl

/-- steening/steeningref07.Turn -/
def v25 : VC :=
 (.seq
 (.ops false [
   ⟨some 2, .box 2 2 (.t 0), none⟩,
   ⟨some 4, .mov (.k (.int 0)), none⟩,
   ⟨some 5, .mov (.k (.int 0)), none⟩] (some [1, 2]))
 (.seq
 (.seq
 (.ops true [
   ⟨some 8, .load 2 true (.t 2) [], none⟩,
   ⟨some 9, .mov (.t 1), none⟩,
   ⟨some 10, .call 70 [.t 9], none⟩,
   ⟨some 11, .call 65 [.t 8, .t 10], none⟩,
   ⟨some 6, .mov (.t 11), none⟩] (some [1, 2, 6]))
 (.seq
 (.ops false [
   ⟨some 12, .mov (.t 6), none⟩,
   ⟨some 13, .bin .neq (.t 12) (.k (.int 0)), none⟩] (some [1, 2, 6, 13]))
 (.cond (.t 13)
  (.seq
  (.ops false [
    ⟨some 14, .mov (.t 6), none⟩,
    ⟨some 4, .mov (.k (.int 0)), none⟩,
    ⟨some 5, .mov (.t 14), none⟩] (some [4, 5]))
  .ret)
  .skip)))
 (.seq
 (.seq
 (.ops true [
   ⟨some 15, .load 2 true (.t 2) [], none⟩,
   ⟨some 16, .load 2 true (.t 2) [], none⟩,
   ⟨some 17, .mov (.t 1), none⟩,
   ⟨some 18, .call 66 [.t 16, .t 17], none⟩,
   ⟨some 19, .call 71 [.t 15, .t 18], none⟩,
   ⟨some 7, .mov (.t 19), none⟩] (some [7]))
 (.seq
 (.ops false [
   ⟨some 20, .mov (.t 7), none⟩,
   ⟨some 21, .bin .geq (.t 20) (.k (.int 0)), none⟩] (some [7, 21]))
 (.cond (.t 21)
  (.seq
  (.ops false [
    ⟨some 22, .mov (.t 7), none⟩,
    ⟨some 4, .mov (.t 22), none⟩,
    ⟨some 5, .mov (.k (.int 0)), none⟩] (some [4, 5]))
  .ret)
  .skip)))
 (.seq
 (.ops false [
   ⟨some 4, .mov (.k (.int 0)), none⟩,
   ⟨some 5, .mov (.k (.int 3)), none⟩] (some [4, 5]))
 .ret))))

theorem m25 : fmatch Try.prog Try.f25 2 [.tmp 4, .tmp 5] v25 = true := by kernel_rfl

/-- steening/steeningref01.SameInts -/
def v26 : VC :=
 (.seq
 (.ops false [
   ⟨some 4, .mov (.k (.bool false)), none⟩] (some [0, 1]))
 (.seq
 (.seq
 (.ops false [
   ⟨some 6, .mov (.t 0), none⟩,
   ⟨some 7, .len (.t 6), none⟩,
   ⟨some 8, .mov (.t 1), none⟩,
   ⟨some 9, .len (.t 8), none⟩,
   ⟨some 10, .bin .neq (.t 7) (.t 9), none⟩] (some [0, 1, 10]))
 (.cond (.t 10)
  (.seq
  (.ops false [
    ⟨some 4, .mov (.k (.bool false)), none⟩] (some [4]))
  .ret)
  .skip))
 (.seq
 (.seq
 (.ops false [
   ⟨some 5, .mov (.k (.int 0)), none⟩] (some [0, 1, 5]))
 (.block 0
  (.loop
   (.seq
   (.seq
   (.ops false [
     ⟨some 11, .mov (.t 5), none⟩,
     ⟨some 12, .mov (.t 0), none⟩,
     ⟨some 13, .len (.t 12), none⟩,
     ⟨some 14, .bin .lss (.t 11) (.t 13), none⟩] (some [0, 1, 5, 14]))
   (.cond (.t 14)
    .skip
    (.exit 0)))
   (.seq
   (.block 1
    (.seq
    (.ops true [
      ⟨some 17, .mov (.t 0), none⟩,
      ⟨some 18, .mov (.t 5), none⟩,
      ⟨some 19, .idx 1 (.t 17) (.t 18), none⟩,
      ⟨some 20, .load 1 false (.t 19) [], none⟩,
      ⟨some 21, .mov (.t 1), none⟩,
      ⟨some 22, .mov (.t 5), none⟩,
      ⟨some 23, .idx 1 (.t 21) (.t 22), none⟩,
      ⟨some 24, .load 1 false (.t 23) [], none⟩,
      ⟨some 25, .bin .neq (.t 20) (.t 24), none⟩] (some [0, 1, 5, 25]))
    (.cond (.t 25)
     (.seq
     (.ops false [
       ⟨some 4, .mov (.k (.bool false)), none⟩] (some [4]))
     .ret)
     .skip)))
   (.ops false [
     ⟨some 15, .mov (.t 5), none⟩,
     ⟨some 16, .bin .add (.t 15) (.k (.int 1)), none⟩,
     ⟨some 5, .mov (.t 16), none⟩] (some [0, 1, 5])))))))
 (.seq
 (.ops false [
   ⟨some 4, .mov (.k (.bool true)), none⟩] (some [4]))
 .ret))))

theorem m26 : fmatch Try.prog Try.f26 2 [.tmp 4] v26 = true := by kernel_rfl

/-- steening/steeninglaw07.Same -/
def v27 : VC :=
 (.seq
 (.ops false [
   ⟨some 2, .box 2 2 (.t 0), none⟩,
   ⟨some 3, .box 3 2 (.t 1), none⟩,
   ⟨some 4, .mov (.k (.bool false)), none⟩] (some [2, 3]))
 (.seq
 (.ops false [
   ⟨some 5, .fld 0 (.t 2), none⟩,
   ⟨some 6, .load 1 false (.t 5) [], none⟩,
   ⟨some 7, .fld 0 (.t 3), none⟩,
   ⟨some 8, .load 1 false (.t 7) [], none⟩,
   ⟨some 9, .call 26 [.t 6, .t 8], none⟩,
   ⟨some 10, .mov (.t 9), none⟩,
   ⟨some 11, .fld 1 (.t 2), some (10, true)⟩,
   ⟨some 12, .load 1 false (.t 11) [], some (10, true)⟩,
   ⟨some 13, .fld 1 (.t 3), some (10, true)⟩,
   ⟨some 14, .load 1 false (.t 13) [], some (10, true)⟩,
   ⟨some 15, .call 26 [.t 12, .t 14], some (10, true)⟩,
   ⟨some 16, .pick (.t 10) (.t 15) (.k (.bool false)), none⟩,
   ⟨some 4, .mov (.t 16), none⟩] (some [4]))
 .ret))

theorem m27 : fmatch Try.prog Try.f27 2 [.tmp 4] v27 = true := by kernel_rfl

/-- steening/steeninglaw07.ready -/
def v28 : VC :=
 (.seq
 (.ops false [
   ⟨some 2, .box 2 2 (.t 0), none⟩,
   ⟨some 4, .mov (.k (.bool false)), none⟩] (some [1, 2]))
 (.seq
 (.ops false [
   ⟨some 5, .load 2 true (.t 2) [], none⟩,
   ⟨some 6, .call 15 [.t 5], none⟩,
   ⟨some 7, .not (.t 6), none⟩,
   ⟨some 8, .mov (.t 7), none⟩,
   ⟨some 9, .load 2 true (.t 2) [], some (8, true)⟩,
   ⟨some 10, .call 19 [.t 9], some (8, true)⟩,
   ⟨some 11, .bin .eql (.t 10) (.k (.int 0)), some (8, true)⟩,
   ⟨some 12, .pick (.t 8) (.t 11) (.k (.bool false)), none⟩,
   ⟨some 13, .mov (.t 12), none⟩,
   ⟨some 14, .mov (.t 1), some (13, true)⟩,
   ⟨some 15, .call 58 [.t 14], some (13, true)⟩,
   ⟨some 16, .pick (.t 13) (.t 15) (.k (.bool false)), none⟩,
   ⟨some 4, .mov (.t 16), none⟩] (some [4]))
 .ret))

theorem m28 : fmatch Try.prog Try.f28 2 [.tmp 4] v28 = true := by kernel_rfl

/-- steening/steeninglaw07.gauges -/
def v29 : VC :=
 (.seq
 (.ops false [
   ⟨some 2, .box 2 2 (.t 0), none⟩,
   ⟨some 4, .nils 4 1, none⟩,
   ⟨some 5, .mov (.k (.bool false)), none⟩] (some [1, 2]))
 (.seq
 (.ops false [
   ⟨some 10, .load 2 true (.t 2) [], none⟩,
   ⟨some 11, .mov (.t 1), none⟩,
   ⟨some 12, .call 20 [.t 10, .t 11], none⟩,
   ⟨some 9, .mov (.t 12), none⟩,
   ⟨some 13, .ext (.t 9) 0, none⟩,
   ⟨some 14, .ext (.t 9) 1, none⟩,
   ⟨some 6, .mov (.t 13), none⟩,
   ⟨some 7, .mov (.t 14), none⟩] (some [2, 6, 7]))
 (.seq
 (.seq
 (.ops false [
   ⟨some 15, .mov (.t 7), none⟩,
   ⟨some 16, .bin .neq (.t 15) (.k (.int 0)), none⟩,
   ⟨some 17, .mov (.t 16), none⟩,
   ⟨some 18, .mov (.t 6), some (17, false)⟩,
   ⟨some 19, .len (.t 18), some (17, false)⟩,
   ⟨some 20, .fld 0 (.t 2), some (17, false)⟩,
   ⟨some 21, .load 1 false (.t 20) [], some (17, false)⟩,
   ⟨some 22, .len (.t 21), some (17, false)⟩,
   ⟨some 23, .bin .neq (.t 19) (.t 22), some (17, false)⟩,
   ⟨some 24, .pick (.t 17) (.k (.bool true)) (.t 23), none⟩] (some [2, 6, 24]))
 (.cond (.t 24)
  (.seq
  (.ops false [
    ⟨some 4, .nils 501 1, none⟩,
    ⟨some 5, .mov (.k (.bool false)), none⟩] (some [4, 5]))
  .ret)
  .skip))
 (.seq
 (.seq
 (.ops false [
   ⟨some 8, .mov (.k (.int 0)), none⟩] (some [2, 6, 8]))
 (.block 0
  (.loop
   (.seq
   (.seq
   (.ops false [
     ⟨some 25, .mov (.t 8), none⟩,
     ⟨some 26, .mov (.t 6), none⟩,
     ⟨some 27, .len (.t 26), none⟩,
     ⟨some 28, .bin .lss (.t 25) (.t 27), none⟩] (some [2, 6, 8, 28]))
   (.cond (.t 28)
    .skip
    (.exit 0)))
   (.seq
   (.block 1
    (.seq
    (.ops true [
      ⟨some 31, .mov (.t 6), none⟩,
      ⟨some 32, .mov (.t 8), none⟩,
      ⟨some 33, .idx 1 (.t 31) (.t 32), none⟩,
      ⟨some 34, .load 1 false (.t 33) [], none⟩,
      ⟨some 35, .fld 1 (.t 2), none⟩,
      ⟨some 36, .load 1 false (.t 35) [], none⟩,
      ⟨some 37, .mov (.t 8), none⟩,
      ⟨some 38, .idx 1 (.t 36) (.t 37), none⟩,
      ⟨some 39, .load 1 false (.t 38) [], none⟩,
      ⟨some 40, .call 35 [.t 34, .k (.int 0), .t 39], none⟩,
      ⟨some 41, .not (.t 40), none⟩,
      ⟨some 42, .mov (.t 41), none⟩,
      ⟨some 43, .fld 0 (.t 2), some (42, false)⟩,
      ⟨some 44, .load 1 false (.t 43) [], some (42, false)⟩,
      ⟨some 45, .mov (.t 8), some (42, false)⟩,
      ⟨some 46, .idx 1 (.t 44) (.t 45), some (42, false)⟩,
      ⟨some 47, .load 1 false (.t 46) [], some (42, false)⟩,
      ⟨some 48, .bin .eql (.t 47) (.k (.int 0)), some (42, false)⟩,
      ⟨some 49, .mov (.t 48), some (42, false)⟩,
      ⟨some 50, .mov (.t 6), some (49, true)⟩,
      ⟨some 51, .mov (.t 8), some (49, true)⟩,
      ⟨some 52, .idx 1 (.t 50) (.t 51), some (49, true)⟩,
      ⟨some 53, .load 1 false (.t 52) [], some (49, true)⟩,
      ⟨some 54, .bin .gtr (.t 53) (.k (.int 0)), some (49, true)⟩,
      ⟨some 55, .pick (.t 49) (.t 54) (.k (.bool false)), some (42, false)⟩,
      ⟨some 56, .pick (.t 42) (.k (.bool true)) (.t 55), none⟩] (some [2, 6, 8, 56]))
    (.cond (.t 56)
     (.seq
     (.ops false [
       ⟨some 4, .nils 502 1, none⟩,
       ⟨some 5, .mov (.k (.bool false)), none⟩] (some [4, 5]))
     .ret)
     .skip)))
   (.ops false [
     ⟨some 29, .mov (.t 8), none⟩,
     ⟨some 30, .bin .add (.t 29) (.k (.int 1)), none⟩,
     ⟨some 8, .mov (.t 30), none⟩] (some [2, 6, 8])))))))
 (.seq
 (.ops false [
   ⟨some 57, .mov (.t 6), none⟩,
   ⟨some 4, .mov (.t 57), none⟩,
   ⟨some 5, .mov (.k (.bool true)), none⟩] (some [4, 5]))
 .ret)))))

theorem m29 : fmatch Try.prog Try.f29 2 [.tmp 4, .tmp 5] v29 = true := by kernel_rfl

/-- steening/steeninglaw07.isKnown -/
def v30 : VC :=
 (.seq
 (.ops false [
   ⟨some 2, .mov (.k (.bool false)), none⟩] (some [0]))
 (.seq
 (.ops false [
   ⟨some 3, .mov (.t 0), none⟩,
   ⟨some 4, .bin .eql (.t 3) (.k (.int 0)), none⟩,
   ⟨some 5, .mov (.t 4), none⟩,
   ⟨some 6, .mov (.t 0), some (5, false)⟩,
   ⟨some 7, .bin .eql (.t 6) (.k (.int 3)), some (5, false)⟩,
   ⟨some 8, .pick (.t 5) (.k (.bool true)) (.t 7), none⟩,
   ⟨some 2, .mov (.t 8), none⟩] (some [2]))
 .ret))

theorem m30 : fmatch Try.prog Try.f30 1 [.tmp 2] v30 = true := by kernel_rfl

/-- steening/steeningref07.Sum -/
def v31 : VC :=
 (.seq
 (.ops false [
   ⟨some 2, .mov (.k (.int 0)), none⟩] (some [0]))
 (.seq
 (.ops false [
   ⟨some 3, .mov (.k (.int 0)), none⟩] (some [0, 3]))
 (.seq
 (.seq
 (.ops false [
   ⟨some 4, .mov (.k (.int 0)), none⟩] (some [0, 3, 4]))
 (.block 0
  (.loop
   (.seq
   (.seq
   (.ops false [
     ⟨some 5, .mov (.t 4), none⟩,
     ⟨some 6, .mov (.t 0), none⟩,
     ⟨some 7, .len (.t 6), none⟩,
     ⟨some 8, .bin .lss (.t 5) (.t 7), none⟩] (some [0, 3, 4, 8]))
   (.cond (.t 8)
    .skip
    (.exit 0)))
   (.seq
   (.block 1
    (.ops false [
      ⟨some 11, .mov (.t 3), none⟩,
      ⟨some 12, .mov (.t 0), none⟩,
      ⟨some 13, .mov (.t 4), none⟩,
      ⟨some 14, .idx 1 (.t 12) (.t 13), none⟩,
      ⟨some 15, .load 1 false (.t 14) [], none⟩,
      ⟨some 16, .bin .add (.t 11) (.t 15), none⟩,
      ⟨some 3, .mov (.t 16), none⟩] (some [0, 3, 4])))
   (.ops false [
     ⟨some 9, .mov (.t 4), none⟩,
     ⟨some 10, .bin .add (.t 9) (.k (.int 1)), none⟩,
     ⟨some 4, .mov (.t 10), none⟩] (some [0, 3, 4])))))))
 (.seq
 (.ops false [
   ⟨some 17, .mov (.t 3), none⟩,
   ⟨some 2, .mov (.t 17), none⟩] (some [2]))
 .ret))))

theorem m31 : fmatch Try.prog Try.f31 1 [.tmp 2] v31 = true := by kernel_rfl

/-- steening/steeningref07.IsQuarter -/
def v32 : VC :=
 (.seq
 (.ops false [
   ⟨some 2, .box 2 2 (.t 0), none⟩,
   ⟨some 4, .mov (.k (.bool false)), none⟩] (some [1, 2]))
 (.seq
 (.ops false [
   ⟨some 5, .mov (.t 1), none⟩,
   ⟨some 6, .fld 0 (.t 2), none⟩,
   ⟨some 7, .load 1 false (.t 6) [], none⟩,
   ⟨some 8, .len (.t 7), none⟩,
   ⟨some 9, .bin .sub (.t 8) (.k (.int 1)), none⟩,
   ⟨some 10, .call 61 [.t 5, .k (.int 0), .t 9], none⟩,
   ⟨some 4, .mov (.t 10), none⟩] (some [4]))
 .ret))

theorem m32 : fmatch Try.prog Try.f32 2 [.tmp 4] v32 = true := by kernel_rfl

/-- steening/steeningref07.Less -/
def v33 : VC :=
 (.seq
 (.ops false [
   ⟨some 8, .mov (.k (.bool false)), none⟩] (some [0, 1, 2, 3]))
 (.seq
 (.ops false [
   ⟨some 9, .mov (.t 0), none⟩,
   ⟨some 10, .mov (.t 3), none⟩,
   ⟨some 11, .bin .mul (.t 9) (.t 10), none⟩,
   ⟨some 12, .mov (.t 2), none⟩,
   ⟨some 13, .mov (.t 1), none⟩,
   ⟨some 14, .bin .mul (.t 12) (.t 13), none⟩,
   ⟨some 15, .bin .lss (.t 11) (.t 14), none⟩,
   ⟨some 8, .mov (.t 15), none⟩] (some [8]))
 .ret))

theorem m33 : fmatch Try.prog Try.f33 4 [.tmp 8] v33 = true := by kernel_rfl

/-- steening/mouths.Remainders -/
def v34 : VC :=
 (.seq
 (.ops false [
   ⟨some 2, .box 2 2 (.t 0), none⟩,
   ⟨some 4, .nils 4 1, none⟩,
   ⟨some 5, .mov (.k (.int 0)), none⟩] (some [1, 2]))
 (.seq
 (.seq
 (.ops true [
   ⟨some 7, .load 2 true (.t 2) [], none⟩,
   ⟨some 8, .mov (.t 1), none⟩,
   ⟨some 9, .call 63 [.t 8], none⟩,
   ⟨some 10, .call 62 [.t 7, .t 9], none⟩,
   ⟨some 6, .mov (.t 10), none⟩] (some [1, 2, 6]))
 (.seq
 (.ops false [
   ⟨some 11, .mov (.t 6), none⟩,
   ⟨some 12, .bin .neq (.t 11) (.k (.int 0)), none⟩] (some [1, 2, 6, 12]))
 (.cond (.t 12)
  (.seq
  (.ops false [
    ⟨some 13, .mov (.t 6), none⟩,
    ⟨some 4, .nils 501 1, none⟩,
    ⟨some 5, .mov (.t 13), none⟩] (some [4, 5]))
  .ret)
  .skip)))
 (.seq
 (.ops false [
   ⟨some 14, .load 2 true (.t 2) [], none⟩,
   ⟨some 15, .mov (.t 1), none⟩,
   ⟨some 16, .call 72 [.t 14, .t 15], none⟩,
   ⟨some 4, .mov (.t 16), none⟩,
   ⟨some 5, .mov (.k (.int 0)), none⟩] (some [4, 5]))
 .ret)))

theorem m34 : fmatch Try.prog Try.f34 2 [.tmp 4, .tmp 5] v34 = true := by kernel_rfl

/-- steening/steeningref01.Within -/
def v35 : VC :=
 (.seq
 (.ops false [
   ⟨some 6, .mov (.k (.bool false)), none⟩] (some [0, 1, 2]))
 (.seq
 (.ops false [
   ⟨some 7, .mov (.t 1), none⟩,
   ⟨some 8, .mov (.t 0), none⟩,
   ⟨some 9, .bin .leq (.t 7) (.t 8), none⟩,
   ⟨some 10, .mov (.t 9), none⟩,
   ⟨some 11, .mov (.t 0), some (10, true)⟩,
   ⟨some 12, .mov (.t 2), some (10, true)⟩,
   ⟨some 13, .bin .leq (.t 11) (.t 12), some (10, true)⟩,
   ⟨some 14, .pick (.t 10) (.t 13) (.k (.bool false)), none⟩,
   ⟨some 6, .mov (.t 14), none⟩] (some [6]))
 .ret))

theorem m35 : fmatch Try.prog Try.f35 3 [.tmp 6] v35 = true := by kernel_rfl

/-- steening/mouths.Exact -/
def v39 : VC :=
 (.seq
 (.ops false [
   ⟨some 2, .box 2 2 (.t 0), none⟩,
   ⟨some 4, .nils 4 2, none⟩,
   ⟨some 5, .mov (.k (.int 0)), none⟩] (some [1, 2]))
 (.seq
 (.seq
 (.ops true [
   ⟨some 10, .load 2 true (.t 2) [], none⟩,
   ⟨some 11, .mov (.t 1), none⟩,
   ⟨some 12, .call 63 [.t 11], none⟩,
   ⟨some 13, .call 62 [.t 10, .t 12], none⟩,
   ⟨some 6, .mov (.t 13), none⟩] (some [1, 2, 6]))
 (.seq
 (.ops false [
   ⟨some 14, .mov (.t 6), none⟩,
   ⟨some 15, .bin .neq (.t 14) (.k (.int 0)), none⟩] (some [1, 2, 6, 15]))
 (.cond (.t 15)
  (.seq
  (.ops false [
    ⟨some 16, .mov (.t 6), none⟩,
    ⟨some 4, .nils 501 2, none⟩,
    ⟨some 5, .mov (.t 16), none⟩] (some [4, 5]))
  .ret)
  .skip)))
 (.seq
 (.ops false [
   ⟨some 7, .nils 7 2, none⟩] (some [1, 2, 7]))
 (.seq
 (.seq
 (.ops false [
   ⟨some 17, .fld 0 (.t 2), none⟩,
   ⟨some 18, .load 1 false (.t 17) [], none⟩,
   ⟨some 19, .len (.t 18), none⟩,
   ⟨some 20, .mov (.k (.int 0)), none⟩] (some [1, 2, 7, 18, 19, 20]))
 (.block 0
  (.loop
   (.seq
   (.ops false [
     ⟨some 21, .bin .lss (.t 20) (.t 19), none⟩] (some [1, 2, 7, 18, 19, 20, 21]))
   (.seq
   (.cond (.t 21)
    .skip
    (.exit 0))
   (.seq
   (.block 1
    (.seq
    (.ops false [
      ⟨some 22, .idx 1 (.t 18) (.t 20), none⟩,
      ⟨some 23, .load 1 false (.t 22) [], none⟩,
      ⟨some 9, .mov (.t 23), none⟩] (some [1, 2, 7, 9, 18, 19, 20]))
    (.ops false [
      ⟨some 24, .mov (.t 7), none⟩,
      ⟨some 25, .mov (.t 1), none⟩,
      ⟨some 26, .mov (.t 9), none⟩,
      ⟨some 27, .bin .mul (.t 25) (.t 26), none⟩,
      ⟨some 28, .fld 0 (.t 2), none⟩,
      ⟨some 29, .load 1 false (.t 28) [], none⟩,
      ⟨some 30, .call 67 [.t 29], none⟩,
      ⟨some 31, .max (.k (.int 1)) (.t 30), none⟩,
      ⟨some 32, .call 73 [.t 27, .t 31], none⟩,
      ⟨some 33, .bslice 2 [.t 32], none⟩,
      ⟨some 34, .app 34 2 16 (.t 24) (.t 33), none⟩,
      ⟨some 7, .mov (.t 34), none⟩] (some [1, 2, 7, 18, 19, 20]))))
   (.ops false [
     ⟨some 35, .bin .add (.t 20) (.k (.int 1)), none⟩,
     ⟨some 20, .mov (.t 35), none⟩] (some [1, 2, 7, 18, 19, 20]))))))))
 (.seq
 (.ops false [
   ⟨some 36, .mov (.t 7), none⟩,
   ⟨some 4, .mov (.t 36), none⟩,
   ⟨some 5, .mov (.k (.int 0)), none⟩] (some [4, 5]))
 .ret)))))

theorem m39 : fmatch Try.prog Try.f39 2 [.tmp 4, .tmp 5] v39 = true := by kernel_rfl

/-- steening/mouths.Paradox -/
def v41 : VC :=
 (.seq
 (.ops false [
   ⟨some 1, .box 1 2 (.t 0), none⟩,
   ⟨some 2, .mov (.k (.int 0)), none⟩,
   ⟨some 3, .mov (.k (.int 0)), none⟩] (some [1]))
 (.seq
 (.ops false [
   ⟨some 4, .load 2 true (.t 1) [], none⟩,
   ⟨some 5, .mkf 75 [.t 1], none⟩,
   ⟨some 6, .call 74 [.t 4, .k (.int 40), .t 5], none⟩,
   ⟨some 7, .ext (.t 6) 0, none⟩,
   ⟨some 8, .ext (.t 6) 1, none⟩,
   ⟨some 2, .mov (.t 7), none⟩,
   ⟨some 3, .mov (.t 8), none⟩] (some [2, 3]))
 .ret))

theorem m41 : fmatch Try.prog Try.f41 1 [.tmp 2, .tmp 3] v41 = true := by kernel_rfl

/-- steening/steeninglaw07.sameRatios -/
def v49 : VC :=
 (.seq
 (.ops false [
   ⟨some 4, .mov (.k (.bool false)), none⟩] (some [0, 1]))
 (.seq
 (.seq
 (.ops false [
   ⟨some 6, .mov (.t 0), none⟩,
   ⟨some 7, .len (.t 6), none⟩,
   ⟨some 8, .mov (.t 1), none⟩,
   ⟨some 9, .len (.t 8), none⟩,
   ⟨some 10, .bin .neq (.t 7) (.t 9), none⟩] (some [0, 1, 10]))
 (.cond (.t 10)
  (.seq
  (.ops false [
    ⟨some 4, .mov (.k (.bool false)), none⟩] (some [4]))
  .ret)
  .skip))
 (.seq
 (.seq
 (.ops false [
   ⟨some 5, .mov (.k (.int 0)), none⟩] (some [0, 1, 5]))
 (.block 0
  (.loop
   (.seq
   (.seq
   (.ops false [
     ⟨some 11, .mov (.t 5), none⟩,
     ⟨some 12, .mov (.t 0), none⟩,
     ⟨some 13, .len (.t 12), none⟩,
     ⟨some 14, .bin .lss (.t 11) (.t 13), none⟩] (some [0, 1, 5, 14]))
   (.cond (.t 14)
    .skip
    (.exit 0)))
   (.seq
   (.block 1
    (.seq
    (.ops true [
      ⟨some 17, .mov (.t 0), none⟩,
      ⟨some 18, .mov (.t 5), none⟩,
      ⟨some 19, .idx 2 (.t 17) (.t 18), none⟩,
      ⟨some 20, .load 2 true (.t 19) [], none⟩,
      ⟨some 21, .mov (.t 1), none⟩,
      ⟨some 22, .mov (.t 5), none⟩,
      ⟨some 23, .idx 2 (.t 21) (.t 22), none⟩,
      ⟨some 24, .load 2 true (.t 23) [], none⟩,
      ⟨some 25, .bin (.sne 2) (.t 20) (.t 24), none⟩] (some [0, 1, 5, 25]))
    (.cond (.t 25)
     (.seq
     (.ops false [
       ⟨some 4, .mov (.k (.bool false)), none⟩] (some [4]))
     .ret)
     .skip)))
   (.ops false [
     ⟨some 15, .mov (.t 5), none⟩,
     ⟨some 16, .bin .add (.t 15) (.k (.int 1)), none⟩,
     ⟨some 5, .mov (.t 16), none⟩] (some [0, 1, 5])))))))
 (.seq
 (.ops false [
   ⟨some 4, .mov (.k (.bool true)), none⟩] (some [4]))
 .ret))))

theorem m49 : fmatch Try.prog Try.f49 2 [.tmp 4] v49 = true := by kernel_rfl

/-- steening/mouths.From -/
def v50 : VC :=
 (.seq
 (.ops false [
   ⟨some 3, .box 3 2 (.t 0), none⟩,
   ⟨some 6, .mov (.k (.int 0)), none⟩,
   ⟨some 7, .mov (.k (.int 0)), none⟩] (some [1, 2, 3]))
 (.seq
 (.seq
 (.ops true [
   ⟨some 10, .load 2 true (.t 3) [], none⟩,
   ⟨some 11, .load 2 true (.t 3) [], none⟩,
   ⟨some 12, .mov (.t 1), none⟩,
   ⟨some 13, .call 79 [.t 11, .t 12], none⟩,
   ⟨some 14, .mov (.t 13), none⟩,
   ⟨some 15, .mov (.t 2), some (14, true)⟩,
   ⟨some 16, .call 80 [.t 15], some (14, true)⟩,
   ⟨some 17, .pick (.t 14) (.t 16) (.k (.bool false)), none⟩,
   ⟨some 18, .call 62 [.t 10, .t 17], none⟩,
   ⟨some 8, .mov (.t 18), none⟩] (some [1, 2, 3, 8]))
 (.seq
 (.ops false [
   ⟨some 19, .mov (.t 8), none⟩,
   ⟨some 20, .bin .neq (.t 19) (.k (.int 0)), none⟩] (some [1, 2, 3, 8, 20]))
 (.cond (.t 20)
  (.seq
  (.ops false [
    ⟨some 21, .mov (.t 8), none⟩,
    ⟨some 6, .mov (.k (.int 0)), none⟩,
    ⟨some 7, .mov (.t 21), none⟩] (some [6, 7]))
  .ret)
  .skip)))
 (.seq
 (.seq
 (.ops false [
   ⟨some 22, .mov (.k (.int 0)), none⟩] (some [1, 2, 3, 22]))
 (.block 0
  (.loop
   (.seq
   (.ops false [
     ⟨some 23, .bin .lss (.t 22) (.k (.int 41)), none⟩] (some [1, 2, 3, 22, 23]))
   (.seq
   (.cond (.t 23)
    .skip
    (.exit 0))
   (.seq
   (.block 1
    (.seq
    (.ops false [
      ⟨some 24, .mov (.t 22), none⟩,
      ⟨some 9, .mov (.t 24), none⟩] (some [1, 2, 3, 9, 22]))
    (.seq
    (.ops false [
      ⟨some 25, .load 2 true (.t 3) [], none⟩,
      ⟨some 26, .mov (.t 9), none⟩,
      ⟨some 27, .call 64 [.t 25, .t 26], none⟩,
      ⟨some 28, .mov (.t 1), none⟩,
      ⟨some 29, .idx 1 (.t 27) (.t 28), none⟩,
      ⟨some 30, .load 1 false (.t 29) [], none⟩,
      ⟨some 31, .mov (.t 2), none⟩,
      ⟨some 32, .bin .geq (.t 30) (.t 31), none⟩] (some [1, 2, 3, 9, 22, 32]))
    (.cond (.t 32)
     (.seq
     (.ops false [
       ⟨some 33, .mov (.t 9), none⟩,
       ⟨some 6, .mov (.t 33), none⟩,
       ⟨some 7, .mov (.k (.int 0)), none⟩] (some [6, 7]))
     .ret)
     .skip))))
   (.ops false [
     ⟨some 34, .bin .add (.t 22) (.k (.int 1)), none⟩,
     ⟨some 22, .mov (.t 34), none⟩] (some [1, 2, 3, 22]))))))))
 (.seq
 (.ops false [
   ⟨some 6, .mov (.k (.int 0)), none⟩,
   ⟨some 7, .mov (.k (.int 3)), none⟩] (some [6, 7]))
 .ret))))

theorem m50 : fmatch Try.prog Try.f50 3 [.tmp 6, .tmp 7] v50 = true := by kernel_rfl

/-- steening/mouths.Between -/
def v52 : VC :=
 (.seq
 (.ops false [
   ⟨some 3, .box 3 2 (.t 0), none⟩,
   ⟨some 6, .nils 6 2, none⟩,
   ⟨some 7, .mov (.k (.int 0)), none⟩] (some [1, 2, 3]))
 (.seq
 (.seq
 (.ops true [
   ⟨some 13, .load 2 true (.t 3) [], none⟩,
   ⟨some 14, .mov (.t 1), none⟩,
   ⟨some 15, .call 63 [.t 14], none⟩,
   ⟨some 16, .mov (.t 15), none⟩,
   ⟨some 17, .mov (.t 2), some (16, true)⟩,
   ⟨some 18, .call 63 [.t 17], some (16, true)⟩,
   ⟨some 19, .pick (.t 16) (.t 18) (.k (.bool false)), none⟩,
   ⟨some 20, .mov (.t 19), none⟩,
   ⟨some 21, .mov (.t 1), some (20, true)⟩,
   ⟨some 22, .mov (.t 2), some (20, true)⟩,
   ⟨some 23, .bin .leq (.t 21) (.t 22), some (20, true)⟩,
   ⟨some 24, .pick (.t 20) (.t 23) (.k (.bool false)), none⟩,
   ⟨some 25, .call 62 [.t 13, .t 24], none⟩,
   ⟨some 8, .mov (.t 25), none⟩] (some [1, 2, 3, 8]))
 (.seq
 (.ops false [
   ⟨some 26, .mov (.t 8), none⟩,
   ⟨some 27, .bin .neq (.t 26) (.k (.int 0)), none⟩] (some [1, 2, 3, 8, 27]))
 (.cond (.t 27)
  (.seq
  (.ops false [
    ⟨some 28, .mov (.t 8), none⟩,
    ⟨some 6, .nils 501 2, none⟩,
    ⟨some 7, .mov (.t 28), none⟩] (some [6, 7]))
  .ret)
  .skip)))
 (.seq
 (.ops false [
   ⟨some 9, .nils 9 2, none⟩] (some [1, 2, 3, 9]))
 (.seq
 (.ops true [
   ⟨some 29, .load 2 true (.t 3) [], none⟩,
   ⟨some 30, .mov (.t 1), none⟩,
   ⟨some 31, .call 64 [.t 29, .t 30], none⟩,
   ⟨some 32, .load 2 true (.t 3) [], none⟩,
   ⟨some 33, .mov (.t 2), none⟩,
   ⟨some 34, .call 64 [.t 32, .t 33], none⟩,
   ⟨some 10, .mov (.t 31), none⟩,
   ⟨some 11, .mov (.t 34), none⟩] (some [9, 10, 11]))
 (.seq
 (.seq
 (.ops false [
   ⟨some 35, .mov (.t 10), none⟩,
   ⟨some 36, .len (.t 35), none⟩,
   ⟨some 37, .mov (.k (.int 0)), none⟩] (some [9, 10, 11, 36, 37]))
 (.block 0
  (.loop
   (.seq
   (.ops false [
     ⟨some 38, .bin .lss (.t 37) (.t 36), none⟩] (some [9, 10, 11, 36, 37, 38]))
   (.seq
   (.cond (.t 38)
    .skip
    (.exit 0))
   (.seq
   (.block 1
    (.seq
    (.ops false [
      ⟨some 39, .mov (.t 37), none⟩,
      ⟨some 12, .mov (.t 39), none⟩] (some [9, 10, 11, 12, 36, 37]))
    (.ops true [
      ⟨some 40, .mov (.t 9), none⟩,
      ⟨some 41, .mov (.t 10), none⟩,
      ⟨some 42, .mov (.t 12), none⟩,
      ⟨some 43, .idx 1 (.t 41) (.t 42), none⟩,
      ⟨some 44, .load 1 false (.t 43) [], none⟩,
      ⟨some 45, .mov (.t 11), none⟩,
      ⟨some 46, .mov (.t 12), none⟩,
      ⟨some 47, .idx 1 (.t 45) (.t 46), none⟩,
      ⟨some 48, .load 1 false (.t 47) [], none⟩,
      ⟨some 49, .build [.int 0, .int 0] [(0, 1, .t 44), (1, 1, .t 48)], none⟩,
      ⟨some 50, .bslice 2 [.t 49], none⟩,
      ⟨some 51, .app 51 2 16 (.t 40) (.t 50), none⟩,
      ⟨some 9, .mov (.t 51), none⟩] (some [9, 10, 11, 36, 37]))))
   (.ops false [
     ⟨some 52, .bin .add (.t 37) (.k (.int 1)), none⟩,
     ⟨some 37, .mov (.t 52), none⟩] (some [9, 10, 11, 36, 37]))))))))
 (.seq
 (.ops false [
   ⟨some 53, .mov (.t 9), none⟩,
   ⟨some 6, .mov (.t 53), none⟩,
   ⟨some 7, .mov (.k (.int 0)), none⟩] (some [6, 7]))
 .ret))))))

theorem m52 : fmatch Try.prog Try.f52 3 [.tmp 6, .tmp 7] v52 = true := by kernel_rfl

/-- steening/steeningref07.IsGauges -/
def v57 : VC :=
 (.seq
 (.ops false [
   ⟨some 2, .mov (.k (.bool false)), none⟩] (some [0]))
 (.seq
 (.ops false [
   ⟨some 3, .mov (.t 0), none⟩,
   ⟨some 4, .call 61 [.t 3, .k (.int 1), .k (.int 20)], none⟩,
   ⟨some 2, .mov (.t 4), none⟩] (some [2]))
 .ret))

theorem m57 : fmatch Try.prog Try.f57 1 [.tmp 2] v57 = true := by kernel_rfl

/-- steening/steeningref07.IsFlow -/
def v58 : VC :=
 (.seq
 (.ops false [
   ⟨some 2, .mov (.k (.bool false)), none⟩] (some [0]))
 (.seq
 (.ops false [
   ⟨some 3, .mov (.t 0), none⟩,
   ⟨some 4, .call 61 [.t 3, .k (.int 0), .k (.int 40)], none⟩,
   ⟨some 2, .mov (.t 4), none⟩] (some [2]))
 .ret))

theorem m58 : fmatch Try.prog Try.f58 1 [.tmp 2] v58 = true := by kernel_rfl

/-- steening/steeninglaw07.Example -/
def v59 : VC :=
 (.seq
 (.ops false [
   ⟨some 0, .alloc 0 [.sl 1 [] .full, .sl 1 [] .full], none⟩,
   ⟨some 1, .alloc 1 [.sl 1 [] .full, .sl 1 [] .full], none⟩] (some [0, 1]))
 (.seq
 (.ops false [
   ⟨some 2, .bslice 1 [.k (.int 5), .k (.int 3), .k (.int 1)], none⟩,
   ⟨some 3, .bslice 1 [.k (.int 9), .k (.int 9), .k (.int 9)], none⟩,
   ⟨some 4, .build [.sl 1 [] .sh, .sl 1 [] .sh] [(0, 1, .t 2), (1, 1, .t 3)], none⟩,
   ⟨some 5, .bslice 1 [.k (.int 5), .k (.int 3), .k (.int 1)], none⟩,
   ⟨some 6, .bslice 1 [.k (.int 2), .k (.int 1), .k (.int 0)], none⟩,
   ⟨some 7, .build [.sl 1 [] .sh, .sl 1 [] .sh] [(0, 1, .t 5), (1, 1, .t 6)], none⟩,
   ⟨none, .store 2 (.t 0) (.t 4) (some 0), none⟩,
   ⟨none, .store 2 (.t 1) (.t 7) (some 1), none⟩] (some [0, 1]))
 .ret))

theorem m59 : fmatch Try.prog Try.f59 0 [.cell 0 24, .cell 1 24] v59 = true := by kernel_rfl

/-- steening/mouths.are -/
def v60 : VC :=
 (.seq
 (.ops false [
   ⟨some 2, .box 2 1 (.t 0), none⟩,
   ⟨some 4, .mov (.k (.bool false)), none⟩] (some [1, 2]))
 (.seq
 (.ops false [
   ⟨some 5, .mov (.t 1), none⟩,
   ⟨some 6, .mkf 83 [.t 2], none⟩,
   ⟨some 7, .call 82 [.t 5, .t 6], none⟩,
   ⟨some 8, .not (.t 7), none⟩,
   ⟨some 4, .mov (.t 8), none⟩] (some [4]))
 .ret))

theorem m60 : fmatch Try.prog Try.f60 2 [.tmp 4] v60 = true := by kernel_rfl

/-- steening/steeningref07.within -/
def v61 : VC :=
 (.seq
 (.ops false [
   ⟨some 6, .mov (.k (.bool false)), none⟩] (some [0, 1, 2]))
 (.seq
 (.ops false [
   ⟨some 7, .mov (.t 0), none⟩,
   ⟨some 8, .mov (.t 1), none⟩,
   ⟨some 9, .mov (.t 2), none⟩,
   ⟨some 10, .call 35 [.t 7, .t 8, .t 9], none⟩,
   ⟨some 6, .mov (.t 10), none⟩] (some [6]))
 .ret))

theorem m61 : fmatch Try.prog Try.f61 3 [.tmp 6] v61 = true := by kernel_rfl

/-- steening/mouths.ask -/
def v62 : VC :=
 (.seq
 (.ops false [
   ⟨some 2, .box 2 2 (.t 0), none⟩,
   ⟨some 4, .mov (.k (.int 0)), none⟩] (some [1, 2]))
 (.seq
 (.seq
 (.ops false [
   ⟨some 6, .load 2 true (.t 2) [], none⟩,
   ⟨some 7, .call 18 [.t 6], none⟩,
   ⟨some 5, .mov (.t 7), none⟩] (some [1, 5]))
 (.seq
 (.ops false [
   ⟨some 8, .mov (.t 5), none⟩,
   ⟨some 9, .bin .neq (.t 8) (.k (.int 0)), none⟩] (some [1, 5, 9]))
 (.cond (.t 9)
  (.seq
  (.ops false [
    ⟨some 10, .mov (.t 5), none⟩,
    ⟨some 4, .mov (.t 10), none⟩] (some [4]))
  .ret)
  .skip)))
 (.seq
 (.seq
 (.ops false [
   ⟨some 11, .mov (.t 1), none⟩,
   ⟨some 12, .not (.t 11), none⟩] (some [12]))
 (.cond (.t 12)
  (.seq
  (.ops false [
    ⟨some 4, .mov (.k (.int 1)), none⟩] (some [4]))
  .ret)
  .skip))
 (.seq
 (.ops false [
   ⟨some 4, .mov (.k (.int 0)), none⟩] (some [4]))
 .ret))))

theorem m62 : fmatch Try.prog Try.f62 2 [.tmp 4] v62 = true := by kernel_rfl

/-- steening/mouths.isFlow -/
def v63 : VC :=
 (.seq
 (.ops false [
   ⟨some 2, .mov (.k (.bool false)), none⟩] (some [0]))
 (.seq
 (.ops false [
   ⟨some 3, .mov (.t 0), none⟩,
   ⟨some 4, .call 68 [.t 3, .k (.int 0), .k (.int 40)], none⟩,
   ⟨some 2, .mov (.t 4), none⟩] (some [2]))
 .ret))

theorem m63 : fmatch Try.prog Try.f63 1 [.tmp 2] v63 = true := by kernel_rfl

/-- steening/mouths.gauges -/
def v64 : VC :=
 (.seq
 (.ops false [
   ⟨some 2, .box 2 2 (.t 0), none⟩,
   ⟨some 3, .box 3 1 (.t 1), none⟩,
   ⟨some 4, .nils 4 1, none⟩] (some [2, 3]))
 (.seq
 (.ops false [
   ⟨some 8, .fld 0 (.t 2), none⟩,
   ⟨some 9, .load 1 false (.t 8) [], none⟩,
   ⟨some 10, .len (.t 9), none⟩,
   ⟨some 11, .makes 11 1 8 false [.int 0] (.t 10), none⟩,
   ⟨some 5, .alloc 5 [.sl 1 [] .full], none⟩,
   ⟨none, .store 1 (.t 5) (.t 11) (some 5), none⟩] (some [2, 3, 5]))
 (.seq
 (.seq
 (.ops false [
   ⟨some 12, .load 2 true (.t 2) [], none⟩,
   ⟨some 13, .build [.sl 1 [] .sh, .sl 1 [] .sh, .int 0, .int 0, .int 0, .int 0, .int 0] [(0, 2, .t 12)], none⟩,
   ⟨some 14, .mkm 69 [.t 13], none⟩] (some [3, 5, 14]))
 (.block 0
  (.range (.t 14) [15, 16]
   (.seq
   (.ops false [
     ⟨some 6, .mov (.t 15), none⟩] (some [3, 5, 6, 16]))
   (.ops false [
     ⟨some 7, .mov (.t 16), none⟩] (some [3, 5, 6, 7])))
   (.block 1
    (.seq
    (.seq
    (.ops false [
      ⟨some 17, .mov (.t 6), none⟩,
      ⟨some 18, .load 1 false (.t 3) [], none⟩,
      ⟨some 19, .bin .eql (.t 17) (.t 18), none⟩] (some [5, 7, 19]))
    (.cond (.t 19)
     (.exit 0)
     .skip))
    (.seq
    (.ops false [
      ⟨some 20, .mov (.t 7), none⟩,
      ⟨some 21, .bin .geq (.t 20) (.k (.int 0)), none⟩] (some [5, 7, 21]))
    (.cond (.t 21)
     (.ops false [
       ⟨some 22, .load 1 false (.t 5) [], none⟩,
       ⟨some 23, .mov (.t 7), none⟩,
       ⟨some 24, .idx 1 (.t 22) (.t 23), none⟩,
       ⟨some 25, .load 1 false (.t 24) [], none⟩,
       ⟨some 26, .bin .add (.t 25) (.k (.int 1)), none⟩,
       ⟨some 27, .idx 1 (.t 22) (.t 23), none⟩,
       ⟨none, .store 1 (.t 27) (.t 26) none, none⟩] (some []))
     .skip)))))))
 (.seq
 (.ops false [
   ⟨some 28, .load 1 false (.t 5) [], none⟩,
   ⟨some 4, .mov (.t 28), none⟩] (some [4]))
 .ret))))

theorem m64 : fmatch Try.prog Try.f64 2 [.tmp 4] v64 = true := by kernel_rfl

/-- steening/steeningref07.ask -/
def v65 : VC :=
 (.seq
 (.ops false [
   ⟨some 2, .box 2 2 (.t 0), none⟩,
   ⟨some 4, .mov (.k (.int 0)), none⟩] (some [1, 2]))
 (.seq
 (.seq
 (.ops false [
   ⟨some 6, .load 2 true (.t 2) [], none⟩,
   ⟨some 7, .call 19 [.t 6], none⟩,
   ⟨some 5, .mov (.t 7), none⟩] (some [1, 5]))
 (.seq
 (.ops false [
   ⟨some 8, .mov (.t 5), none⟩,
   ⟨some 9, .bin .neq (.t 8) (.k (.int 0)), none⟩] (some [1, 5, 9]))
 (.cond (.t 9)
  (.seq
  (.ops false [
    ⟨some 10, .mov (.t 5), none⟩,
    ⟨some 4, .mov (.t 10), none⟩] (some [4]))
  .ret)
  .skip)))
 (.seq
 (.seq
 (.ops false [
   ⟨some 11, .mov (.t 1), none⟩,
   ⟨some 12, .not (.t 11), none⟩] (some [12]))
 (.cond (.t 12)
  (.seq
  (.ops false [
    ⟨some 4, .mov (.k (.int 1)), none⟩] (some [4]))
  .ret)
  .skip))
 (.seq
 (.ops false [
   ⟨some 4, .mov (.k (.int 0)), none⟩] (some [4]))
 .ret))))

theorem m65 : fmatch Try.prog Try.f65 2 [.tmp 4] v65 = true := by kernel_rfl

/-- steening/steeningref07.GaugesOf -/
def v66 : VC :=
 (.seq
 (.ops false [
   ⟨some 2, .box 2 2 (.t 0), none⟩,
   ⟨some 4, .nils 4 1, none⟩] (some [1, 2]))
 (.seq
 (.ops false [
   ⟨some 8, .fld 0 (.t 2), none⟩,
   ⟨some 9, .load 1 false (.t 8) [], none⟩,
   ⟨some 10, .len (.t 9), none⟩,
   ⟨some 11, .makes 11 1 8 false [.int 0] (.t 10), none⟩,
   ⟨some 5, .mov (.t 11), none⟩] (some [1, 2, 5]))
 (.seq
 (.seq
 (.ops false [
   ⟨some 6, .mov (.k (.int 0)), none⟩] (some [1, 2, 5, 6]))
 (.block 0
  (.loop
   (.seq
   (.seq
   (.ops false [
     ⟨some 12, .mov (.t 6), none⟩,
     ⟨some 13, .mov (.t 1), none⟩,
     ⟨some 14, .bin .lss (.t 12) (.t 13), none⟩] (some [1, 2, 5, 6, 14]))
   (.cond (.t 14)
    .skip
    (.exit 0)))
   (.seq
   (.block 1
    (.seq
    (.ops false [
      ⟨some 17, .load 2 true (.t 2) [], none⟩,
      ⟨some 18, .mov (.t 5), none⟩,
      ⟨some 19, .callb 71 [.t 17, .t 18] [], none⟩,
      ⟨some 7, .mov (.t 19), none⟩] (some [1, 2, 5, 6, 7]))
    (.seq
    (.ops false [
      ⟨some 20, .mov (.t 7), none⟩,
      ⟨some 21, .bin .geq (.t 20) (.k (.int 0)), none⟩] (some [1, 2, 5, 6, 7, 21]))
    (.cond (.t 21)
     (.ops false [
       ⟨some 22, .mov (.t 5), none⟩,
       ⟨some 23, .mov (.t 7), none⟩,
       ⟨some 24, .idx 1 (.t 22) (.t 23), none⟩,
       ⟨some 25, .load 1 false (.t 24) [], none⟩,
       ⟨some 26, .bin .add (.t 25) (.k (.int 1)), none⟩,
       ⟨some 27, .idx 1 (.t 22) (.t 23), none⟩,
       ⟨none, .store 1 (.t 27) (.t 26) (some 11), none⟩] (some [1, 2, 5, 6]))
     .skip))))
   (.ops false [
     ⟨some 15, .mov (.t 6), none⟩,
     ⟨some 16, .bin .add (.t 15) (.k (.int 1)), none⟩,
     ⟨some 6, .mov (.t 16), none⟩] (some [1, 2, 5, 6])))))))
 (.seq
 (.ops false [
   ⟨some 28, .mov (.t 5), none⟩,
   ⟨some 4, .mov (.t 28), none⟩] (some [4]))
 .ret))))

theorem m66 : fmatch Try.prog Try.f66 2 [.tmp 4] v66 = true := by kernel_rfl

/-- steening/mouths.sum -/
def v67 : VC :=
 (.seq
 (.ops false [
   ⟨some 2, .mov (.k (.int 0)), none⟩] (some [0]))
 (.seq
 (.ops false [
   ⟨some 3, .mov (.k (.int 0)), none⟩] (some [0, 3]))
 (.seq
 (.seq
 (.ops false [
   ⟨some 6, .mov (.t 0), none⟩,
   ⟨some 7, .len (.t 6), none⟩,
   ⟨some 8, .mov (.k (.int 0)), none⟩] (some [3, 6, 7, 8]))
 (.block 0
  (.loop
   (.seq
   (.ops false [
     ⟨some 9, .bin .lss (.t 8) (.t 7), none⟩] (some [3, 6, 7, 8, 9]))
   (.seq
   (.cond (.t 9)
    .skip
    (.exit 0))
   (.seq
   (.block 1
    (.seq
    (.ops false [
      ⟨some 10, .idx 1 (.t 6) (.t 8), none⟩,
      ⟨some 11, .load 1 false (.t 10) [], none⟩,
      ⟨some 5, .mov (.t 11), none⟩] (some [3, 5, 6, 7, 8]))
    (.ops false [
      ⟨some 12, .mov (.t 3), none⟩,
      ⟨some 13, .mov (.t 5), none⟩,
      ⟨some 14, .bin .add (.t 12) (.t 13), none⟩,
      ⟨some 3, .mov (.t 14), none⟩] (some [3, 6, 7, 8]))))
   (.ops false [
     ⟨some 15, .bin .add (.t 8) (.k (.int 1)), none⟩,
     ⟨some 8, .mov (.t 15), none⟩] (some [3, 6, 7, 8]))))))))
 (.seq
 (.ops false [
   ⟨some 16, .mov (.t 3), none⟩,
   ⟨some 2, .mov (.t 16), none⟩] (some [2]))
 .ret))))

theorem m67 : fmatch Try.prog Try.f67 1 [.tmp 2] v67 = true := by kernel_rfl

/-- steening/mouths.within -/
def v68 : VC :=
 (.seq
 (.ops false [
   ⟨some 6, .mov (.k (.bool false)), none⟩] (some [0, 1, 2]))
 (.seq
 (.ops false [
   ⟨some 7, .mov (.t 1), none⟩,
   ⟨some 8, .mov (.t 0), none⟩,
   ⟨some 9, .bin .leq (.t 7) (.t 8), none⟩,
   ⟨some 10, .mov (.t 9), none⟩,
   ⟨some 11, .mov (.t 0), some (10, true)⟩,
   ⟨some 12, .mov (.t 2), some (10, true)⟩,
   ⟨some 13, .bin .leq (.t 11) (.t 12), some (10, true)⟩,
   ⟨some 14, .pick (.t 10) (.t 13) (.k (.bool false)), none⟩,
   ⟨some 6, .mov (.t 14), none⟩] (some [6]))
 .ret))

theorem m68 : fmatch Try.prog Try.f68 3 [.tmp 6] v68 = true := by kernel_rfl

/-- (steening/mouths.gate).turns -/
def v69 : VC :=
 (.seq
 (.ops false [
   ⟨some 2, .box 1002 7 (.t 0), none⟩] (some [1, 2]))
 (.seq
 (.ops false [
   ⟨some 4, .mov (.k (.int 0)), none⟩] (some [1, 2, 4]))
 (.block 0
  (.loop
   (.seq
   (.block 1
    (.seq
    (.ops false [
      ⟨some 8, .callb 84 [.t 2] [], none⟩,
      ⟨some 5, .mov (.t 8), none⟩] (some [1, 2, 4, 5]))
    (.seq
    (.seq
    (.ops false [
      ⟨some 9, .mov (.t 1), none⟩,
      ⟨some 10, .mov (.t 4), none⟩,
      ⟨some 11, .mov (.t 5), none⟩,
      ⟨some 12, .yield (.t 9) [.t 10, .t 11], none⟩,
      ⟨some 13, .not (.t 12), none⟩] (some [1, 2, 4, 5, 13]))
    (.cond (.t 13)
     .ret
     .skip))
    (.seq
    (.ops false [
      ⟨some 14, .mov (.t 5), none⟩,
      ⟨some 15, .bin .geq (.t 14) (.k (.int 0)), none⟩] (some [1, 2, 4, 5, 15]))
    (.cond (.t 15)
     (.ops false [
       ⟨some 16, .mov (.t 5), none⟩,
       ⟨some 17, .fld 2 (.t 2), none⟩,
       ⟨some 18, .idxA 5 1 (.t 17) (.t 16), none⟩,
       ⟨some 19, .load 1 false (.t 18) [], none⟩,
       ⟨some 20, .bin .add (.t 19) (.k (.int 1)), none⟩,
       ⟨some 21, .fld 2 (.t 2), none⟩,
       ⟨some 22, .idxA 5 1 (.t 21) (.t 16), none⟩,
       ⟨none, .store 1 (.t 22) (.t 20) (some 1002), none⟩] (some [1, 2, 4]))
     .skip)))))
   (.ops false [
     ⟨some 6, .mov (.t 4), none⟩,
     ⟨some 7, .bin .add (.t 6) (.k (.int 1)), none⟩,
     ⟨some 4, .mov (.t 7), none⟩] (some [1, 2, 4])))))))

theorem m69 : fmatch Try.prog Try.f69 2 [] v69 = true := by kernel_rfl

/-- steening/steeningref07.IsGauge -/
def v70 : VC :=
 (.seq
 (.ops false [
   ⟨some 2, .mov (.k (.bool false)), none⟩] (some [0]))
 (.seq
 (.ops false [
   ⟨some 3, .mov (.t 0), none⟩,
   ⟨some 4, .call 61 [.t 3, .k (.int 0), .k (.int 39)], none⟩,
   ⟨some 2, .mov (.t 4), none⟩] (some [2]))
 .ret))

theorem m70 : fmatch Try.prog Try.f70 1 [.tmp 2] v70 = true := by kernel_rfl

/-- steening/steeningref07.Next -/
def v71 : VC :=
 (.seq
 (.ops false [
   ⟨some 2, .box 2 2 (.t 0), none⟩,
   ⟨some 4, .mov (.k (.int 0)), none⟩] (some [1, 2]))
 (.seq
 (.ops false [
   ⟨some 5, .mov (.k (.int (-1))), none⟩] (some [1, 2, 5]))
 (.seq
 (.seq
 (.ops false [
   ⟨some 6, .mov (.k (.int 0)), none⟩] (some [1, 2, 5, 6]))
 (.block 0
  (.loop
   (.seq
   (.seq
   (.ops false [
     ⟨some 7, .mov (.t 6), none⟩,
     ⟨some 8, .fld 0 (.t 2), none⟩,
     ⟨some 9, .load 1 false (.t 8) [], none⟩,
     ⟨some 10, .len (.t 9), none⟩,
     ⟨some 11, .bin .lss (.t 7) (.t 10), none⟩] (some [1, 2, 5, 6, 11]))
   (.cond (.t 11)
    .skip
    (.exit 0)))
   (.seq
   (.block 1
    (.seq
    (.ops true [
      ⟨some 14, .fld 0 (.t 2), none⟩,
      ⟨some 15, .load 1 false (.t 14) [], none⟩,
      ⟨some 16, .mov (.t 6), none⟩,
      ⟨some 17, .idx 1 (.t 15) (.t 16), none⟩,
      ⟨some 18, .load 1 false (.t 17) [], none⟩,
      ⟨some 19, .bin .gtr (.t 18) (.k (.int 0)), none⟩,
      ⟨some 20, .mov (.t 19), none⟩,
      ⟨some 21, .mov (.t 1), some (20, true)⟩,
      ⟨some 22, .mov (.t 6), some (20, true)⟩,
      ⟨some 23, .idx 1 (.t 21) (.t 22), some (20, true)⟩,
      ⟨some 24, .load 1 false (.t 23) [], some (20, true)⟩,
      ⟨some 25, .fld 1 (.t 2), some (20, true)⟩,
      ⟨some 26, .load 1 false (.t 25) [], some (20, true)⟩,
      ⟨some 27, .mov (.t 6), some (20, true)⟩,
      ⟨some 28, .idx 1 (.t 26) (.t 27), some (20, true)⟩,
      ⟨some 29, .load 1 false (.t 28) [], some (20, true)⟩,
      ⟨some 30, .bin .lss (.t 24) (.t 29), some (20, true)⟩,
      ⟨some 31, .pick (.t 20) (.t 30) (.k (.bool false)), none⟩,
      ⟨some 32, .mov (.t 31), none⟩,
      ⟨some 33, .mov (.t 5), some (32, true)⟩,
      ⟨some 34, .bin .lss (.t 33) (.k (.int 0)), some (32, true)⟩,
      ⟨some 35, .mov (.t 34), some (32, true)⟩,
      ⟨some 36, .fld 0 (.t 2), some (35, false)⟩,
      ⟨some 37, .load 1 false (.t 36) [], some (35, false)⟩,
      ⟨some 38, .mov (.t 5), some (35, false)⟩,
      ⟨some 39, .idx 1 (.t 37) (.t 38), some (35, false)⟩,
      ⟨some 40, .load 1 false (.t 39) [], some (35, false)⟩,
      ⟨some 41, .mov (.t 1), some (35, false)⟩,
      ⟨some 42, .mov (.t 5), some (35, false)⟩,
      ⟨some 43, .idx 1 (.t 41) (.t 42), some (35, false)⟩,
      ⟨some 44, .load 1 false (.t 43) [], some (35, false)⟩,
      ⟨some 45, .bin .mul (.k (.int 2)) (.t 44), some (35, false)⟩,
      ⟨some 46, .bin .add (.t 45) (.k (.int 1)), some (35, false)⟩,
      ⟨some 47, .fld 0 (.t 2), some (35, false)⟩,
      ⟨some 48, .load 1 false (.t 47) [], some (35, false)⟩,
      ⟨some 49, .mov (.t 6), some (35, false)⟩,
      ⟨some 50, .idx 1 (.t 48) (.t 49), some (35, false)⟩,
      ⟨some 51, .load 1 false (.t 50) [], some (35, false)⟩,
      ⟨some 52, .mov (.t 1), some (35, false)⟩,
      ⟨some 53, .mov (.t 6), some (35, false)⟩,
      ⟨some 54, .idx 1 (.t 52) (.t 53), some (35, false)⟩,
      ⟨some 55, .load 1 false (.t 54) [], some (35, false)⟩,
      ⟨some 56, .bin .mul (.k (.int 2)) (.t 55), some (35, false)⟩,
      ⟨some 57, .bin .add (.t 56) (.k (.int 1)), some (35, false)⟩,
      ⟨some 58, .call 33 [.t 40, .t 46, .t 51, .t 57], some (35, false)⟩,
      ⟨some 59, .pick (.t 35) (.k (.bool true)) (.t 58), some (32, true)⟩,
      ⟨some 60, .pick (.t 32) (.t 59) (.k (.bool false)), none⟩] (some [1, 2, 5, 6, 60]))
    (.cond (.t 60)
     (.ops false [
       ⟨some 61, .mov (.t 6), none⟩,
       ⟨some 5, .mov (.t 61), none⟩] (some [1, 2, 5, 6]))
     .skip)))
   (.ops false [
     ⟨some 12, .mov (.t 6), none⟩,
     ⟨some 13, .bin .add (.t 12) (.k (.int 1)), none⟩,
     ⟨some 6, .mov (.t 13), none⟩] (some [1, 2, 5, 6])))))))
 (.seq
 (.ops false [
   ⟨some 62, .mov (.t 5), none⟩,
   ⟨some 4, .mov (.t 62), none⟩] (some [4]))
 .ret))))

theorem m71 : fmatch Try.prog Try.f71 2 [.tmp 4] v71 = true := by kernel_rfl

/-- steening/mouths.remainders -/
def v72 : VC :=
 (.seq
 (.ops false [
   ⟨some 2, .box 2 2 (.t 0), none⟩,
   ⟨some 3, .box 3 1 (.t 1), none⟩,
   ⟨some 4, .nils 4 1, none⟩] (some [2, 3]))
 (.seq
 (.ops true [
   ⟨some 13, .fld 0 (.t 2), none⟩,
   ⟨some 14, .load 1 false (.t 13) [6, 16], none⟩,
   ⟨some 15, .len (.t 14), none⟩,
   ⟨some 16, .makes 16 1 8 false [.int 0] (.t 15), none⟩,
   ⟨some 17, .fld 0 (.t 2), none⟩,
   ⟨some 18, .load 1 false (.t 17) [6, 16], none⟩,
   ⟨some 19, .call 67 [.t 18], none⟩,
   ⟨some 6, .alloc 6 [.int 0], none⟩,
   ⟨some 5, .mov (.t 16), none⟩,
   ⟨none, .store 1 (.t 6) (.t 19) (some 6), none⟩] (some [2, 3, 5, 6]))
 (.seq
 (.seq
 (.ops false [
   ⟨some 20, .load 1 false (.t 6) [], none⟩,
   ⟨some 21, .bin .eql (.t 20) (.k (.int 0)), none⟩] (some [2, 3, 5, 6, 21]))
 (.cond (.t 21)
  (.seq
  (.ops false [
    ⟨some 22, .mov (.t 5), none⟩,
    ⟨some 4, .mov (.t 22), none⟩] (some [4]))
  .ret)
  .skip))
 (.seq
 (.ops false [
   ⟨some 7, .nilsG 7 none 1 false, none⟩] (some [2, 3, 5, 6, 7]))
 (.seq
 (.seq
 (.ops false [
   ⟨some 23, .fld 0 (.t 2), none⟩,
   ⟨some 24, .load 1 false (.t 23) [], none⟩,
   ⟨some 25, .len (.t 24), none⟩,
   ⟨some 26, .mov (.k (.int 0)), none⟩] (some [2, 3, 5, 6, 7, 24, 25, 26]))
 (.block 0
  (.loop
   (.seq
   (.ops false [
     ⟨some 27, .bin .lss (.t 26) (.t 25), none⟩] (some [2, 3, 5, 6, 7, 24, 25, 26, 27]))
   (.seq
   (.cond (.t 27)
    .skip
    (.exit 0))
   (.seq
   (.block 1
    (.seq
    (.ops false [
      ⟨some 28, .mov (.t 26), none⟩,
      ⟨some 29, .idx 1 (.t 24) (.t 26), none⟩,
      ⟨some 30, .load 1 false (.t 29) [], none⟩,
      ⟨some 8, .mov (.t 28), none⟩,
      ⟨some 9, .mov (.t 30), none⟩] (some [2, 3, 5, 6, 7, 8, 9, 24, 25, 26]))
    (.seq
    (.ops false [
      ⟨some 31, .mov (.t 5), none⟩,
      ⟨some 32, .mov (.t 8), none⟩,
      ⟨some 33, .load 1 false (.t 3) [], none⟩,
      ⟨some 34, .mov (.t 9), none⟩,
      ⟨some 35, .bin .mul (.t 33) (.t 34), none⟩,
      ⟨some 36, .load 1 false (.t 6) [], none⟩,
      ⟨some 37, .bin .quo (.t 35) (.t 36), none⟩,
      ⟨some 38, .idx 1 (.t 31) (.t 32), none⟩,
      ⟨none, .store 1 (.t 38) (.t 37) (some 16), none⟩] (some [2, 3, 5, 6, 7, 8, 24, 25, 26]))
    (.ops false [
      ⟨some 39, .mov (.t 7), none⟩,
      ⟨some 40, .mov (.t 8), none⟩,
      ⟨some 41, .bslice 1 [.t 40], none⟩,
      ⟨some 42, .appG 7 none 1 8 false (.t 39) (.t 41), none⟩,
      ⟨some 7, .mov (.t 42), none⟩] (some [2, 3, 5, 6, 7, 24, 25, 26])))))
   (.ops false [
     ⟨some 43, .bin .add (.t 26) (.k (.int 1)), none⟩,
     ⟨some 26, .mov (.t 43), none⟩] (some [2, 3, 5, 6, 7, 24, 25, 26]))))))))
 (.seq
 (.ops false [
   ⟨some 44, .mkf 85 [.t 3, .t 2, .t 6], none⟩,
   ⟨some 10, .alloc 10 [.und], none⟩,
   ⟨none, .store 1 (.t 10) (.t 44) (some 10), none⟩] (some [3, 5, 7, 10]))
 (.seq
 (.ops false [
   ⟨some 45, .mov (.t 7), none⟩,
   ⟨some 46, .mkf 87 [.t 10], none⟩,
   ⟨some 47, .calli 86 [.t 45, .t 46], none⟩] (some [3, 5, 7]))
 (.seq
 (.seq
 (.opsN true [
   ⟨some 48, .mov (.t 7), none⟩,
   ⟨some 49, .load 1 false (.t 3) [], none⟩,
   ⟨some 50, .mov (.t 5), none⟩,
   ⟨some 51, .callb 67 [.t 50] [], none⟩,
   ⟨some 52, .bin .sub (.t 49) (.t 51), none⟩,
   ⟨some 53, .slice 1 (.t 48) none (some (.t 52)), none⟩,
   ⟨some 54, .len (.t 53), none⟩,
   ⟨some 55, .mov (.k (.int 0)), none⟩] (some [5, 53, 54, 55]))
 (.block 2
  (.loop
   (.seq
   (.ops false [
     ⟨some 56, .bin .lss (.t 55) (.t 54), none⟩] (some [5, 53, 54, 55, 56]))
   (.seq
   (.cond (.t 56)
    .skip
    (.exit 2))
   (.seq
   (.block 3
    (.seq
    (.ops false [
      ⟨some 57, .idx 1 (.t 53) (.t 55), none⟩,
      ⟨some 58, .load 1 false (.t 57) [], none⟩,
      ⟨some 12, .mov (.t 58), none⟩] (some [5, 12, 53, 54, 55]))
    (.ops false [
      ⟨some 59, .mov (.t 5), none⟩,
      ⟨some 60, .mov (.t 12), none⟩,
      ⟨some 61, .idx 1 (.t 59) (.t 60), none⟩,
      ⟨some 62, .load 1 false (.t 61) [], none⟩,
      ⟨some 63, .bin .add (.t 62) (.k (.int 1)), none⟩,
      ⟨some 64, .idx 1 (.t 59) (.t 60), none⟩,
      ⟨none, .store 1 (.t 64) (.t 63) (some 16), none⟩] (some [5, 53, 54, 55]))))
   (.ops false [
     ⟨some 65, .bin .add (.t 55) (.k (.int 1)), none⟩,
     ⟨some 55, .mov (.t 65), none⟩] (some [5, 53, 54, 55]))))))))
 (.seq
 (.ops false [
   ⟨some 66, .mov (.t 5), none⟩,
   ⟨some 4, .mov (.t 66), none⟩] (some [4]))
 .ret)))))))))

theorem m72 : fmatch Try.prog Try.f72 2 [.tmp 4] v72 = true := by kernel_rfl

/-- steening/mouths.lowest -/
def v73 : VC :=
 (.seq
 (.ops false [
   ⟨some 4, .alloc 4 [.int 0, .int 0], none⟩] (some [0, 1, 4]))
 (.seq
 (.ops false [
   ⟨some 7, .mov (.t 0), none⟩,
   ⟨some 8, .mov (.t 1), none⟩,
   ⟨some 5, .mov (.t 7), none⟩,
   ⟨some 6, .mov (.t 8), none⟩] (some [0, 1, 4, 5, 6]))
 (.seq
 (.block 0
  (.loop
   (.seq
   (.seq
   (.ops false [
     ⟨some 9, .mov (.t 6), none⟩,
     ⟨some 10, .bin .neq (.t 9) (.k (.int 0)), none⟩] (some [0, 1, 4, 5, 6, 10]))
   (.cond (.t 10)
    .skip
    (.exit 0)))
   (.block 1
    (.ops true [
      ⟨some 11, .mov (.t 6), none⟩,
      ⟨some 12, .mov (.t 5), none⟩,
      ⟨some 13, .mov (.t 6), none⟩,
      ⟨some 14, .bin .rem (.t 12) (.t 13), none⟩,
      ⟨some 5, .mov (.t 11), none⟩,
      ⟨some 6, .mov (.t 14), none⟩] (some [0, 1, 4, 5, 6]))))))
 (.seq
 (.ops true [
   ⟨some 15, .mov (.t 0), none⟩,
   ⟨some 16, .mov (.t 5), none⟩,
   ⟨some 17, .bin .quo (.t 15) (.t 16), none⟩,
   ⟨some 18, .mov (.t 1), none⟩,
   ⟨some 19, .mov (.t 5), none⟩,
   ⟨some 20, .bin .quo (.t 18) (.t 19), none⟩,
   ⟨some 21, .build [.int 0, .int 0] [(0, 1, .t 17), (1, 1, .t 20)], none⟩,
   ⟨none, .store 2 (.t 4) (.t 21) (some 4), none⟩] (some [4]))
 .ret))))

theorem m73 : fmatch Try.prog Try.f73 2 [.cell 4 54] v73 = true := by kernel_rfl

/-- steening/mouths.first -/
def v74 : VC :=
 (.seq
 (.ops false [
   ⟨some 3, .box 3 2 (.t 0), none⟩,
   ⟨some 6, .mov (.k (.int 0)), none⟩,
   ⟨some 7, .mov (.k (.int 0)), none⟩] (some [1, 2, 3]))
 (.seq
 (.seq
 (.ops false [
   ⟨some 10, .load 2 true (.t 3) [], none⟩,
   ⟨some 11, .call 18 [.t 10], none⟩,
   ⟨some 8, .mov (.t 11), none⟩] (some [1, 2, 8]))
 (.seq
 (.ops false [
   ⟨some 12, .mov (.t 8), none⟩,
   ⟨some 13, .bin .neq (.t 12) (.k (.int 0)), none⟩] (some [1, 2, 8, 13]))
 (.cond (.t 13)
  (.seq
  (.ops false [
    ⟨some 14, .mov (.t 8), none⟩,
    ⟨some 6, .mov (.k (.int 0)), none⟩,
    ⟨some 7, .mov (.t 14), none⟩] (some [6, 7]))
  .ret)
  .skip)))
 (.seq
 (.seq
 (.ops false [
   ⟨some 15, .mov (.t 1), none⟩,
   ⟨some 16, .mov (.k (.int 0)), none⟩] (some [2, 15, 16]))
 (.block 0
  (.loop
   (.seq
   (.ops false [
     ⟨some 17, .bin .lss (.t 16) (.t 15), none⟩] (some [2, 15, 16, 17]))
   (.seq
   (.cond (.t 17)
    .skip
    (.exit 0))
   (.seq
   (.block 1
    (.seq
    (.ops false [
      ⟨some 18, .mov (.t 16), none⟩,
      ⟨some 9, .mov (.t 18), none⟩] (some [2, 9, 15, 16]))
    (.seq
    (.ops false [
      ⟨some 19, .mov (.t 2), none⟩,
      ⟨some 20, .mov (.t 9), none⟩,
      ⟨some 21, .callv (.t 19) [.t 20], none⟩] (some [2, 9, 15, 16, 21]))
    (.cond (.t 21)
     (.seq
     (.ops false [
       ⟨some 22, .mov (.t 9), none⟩,
       ⟨some 6, .mov (.t 22), none⟩,
       ⟨some 7, .mov (.k (.int 0)), none⟩] (some [6, 7]))
     .ret)
     .skip))))
   (.ops false [
     ⟨some 23, .bin .add (.t 16) (.k (.int 1)), none⟩,
     ⟨some 16, .mov (.t 23), none⟩] (some [2, 15, 16]))))))))
 (.seq
 (.ops false [
   ⟨some 6, .mov (.k (.int 0)), none⟩,
   ⟨some 7, .mov (.k (.int 3)), none⟩] (some [6, 7]))
 .ret))))

theorem m74 : fmatch Try.prog Try.f74 3 [.tmp 6, .tmp 7] v74 = true := by kernel_rfl

/-- steening/mouths.Paradox$1 -/
def v75 : VC :=
 (.seq
 (.ops false [
   ⟨some 3, .mov (.k (.bool false)), none⟩] (some [0, 1]))
 (.seq
 (.ops false [
   ⟨some 7, .load 2 true (.t 1) [], none⟩,
   ⟨some 8, .mov (.t 0), none⟩,
   ⟨some 9, .bin .add (.t 8) (.k (.int 1)), none⟩,
   ⟨some 10, .call 72 [.t 7, .t 9], none⟩,
   ⟨some 4, .mov (.t 10), none⟩] (some [0, 1, 4]))
 (.seq
 (.seq
 (.ops false [
   ⟨some 11, .load 2 true (.t 1) [], none⟩,
   ⟨some 12, .mov (.t 0), none⟩,
   ⟨some 13, .call 72 [.t 11, .t 12], none⟩,
   ⟨some 14, .len (.t 13), none⟩,
   ⟨some 15, .mov (.k (.int 0)), none⟩] (some [4, 13, 14, 15]))
 (.block 0
  (.loop
   (.seq
   (.ops false [
     ⟨some 16, .bin .lss (.t 15) (.t 14), none⟩] (some [4, 13, 14, 15, 16]))
   (.seq
   (.cond (.t 16)
    .skip
    (.exit 0))
   (.seq
   (.block 1
    (.seq
    (.ops false [
      ⟨some 17, .mov (.t 15), none⟩,
      ⟨some 18, .idx 1 (.t 13) (.t 15), none⟩,
      ⟨some 19, .load 1 false (.t 18) [], none⟩,
      ⟨some 5, .mov (.t 17), none⟩,
      ⟨some 6, .mov (.t 19), none⟩] (some [4, 5, 6, 13, 14, 15]))
    (.seq
    (.ops false [
      ⟨some 20, .mov (.t 6), none⟩,
      ⟨some 21, .mov (.t 4), none⟩,
      ⟨some 22, .mov (.t 5), none⟩,
      ⟨some 23, .idx 1 (.t 21) (.t 22), none⟩,
      ⟨some 24, .load 1 false (.t 23) [], none⟩,
      ⟨some 25, .bin .gtr (.t 20) (.t 24), none⟩] (some [4, 13, 14, 15, 25]))
    (.cond (.t 25)
     (.seq
     (.ops false [
       ⟨some 3, .mov (.k (.bool true)), none⟩] (some [3]))
     .ret)
     .skip))))
   (.ops false [
     ⟨some 26, .bin .add (.t 15) (.k (.int 1)), none⟩,
     ⟨some 15, .mov (.t 26), none⟩] (some [4, 13, 14, 15]))))))))
 (.seq
 (.ops false [
   ⟨some 3, .mov (.k (.bool false)), none⟩] (some [3]))
 .ret))))

theorem m75 : fmatch Try.prog Try.f75 2 [.tmp 3] v75 = true := by kernel_rfl

end Go.Proofs.Ytbghdcleoamkiaa
