/- Merged by program: V22, Code, CodeG, T201, T202, T203, T204, T205, T206, T207, T208, T209, T210, T211, T213, T214, T215, T216, T217, T218, T219, T220, T221, T222, T223, T224, T1. -/
import Derived.Test.YtpangdaijhiohaaDoorM3
import Derived.Deep.Slices
import Derived.ChangeArms
import Derived.Carry
import Derived.Test.YtpangdaijhiohaaDoorProg
import Derived.ProofKit
/- The abstract machine V, part 22: from what a row says of its arguments to abstract values. -/
set_option linter.unusedSimpArgs false
set_option linter.unusedVariables false
set_option linter.unnecessarySimpa false
namespace Go.V
open Go Go.RowKit

/-- Types of plain data. -/
inductive TC where
  | int | bool
  | st (l : List TC)
  | sl (e : TC)

mutual
def TC.size : TC → Nat
  | .st l => TC.sizes l
  | _ => 1
def TC.sizes : List TC → Nat
  | [] => 0
  | c :: r => c.size + TC.sizes r
end

def TC.isSt : TC → Bool
  | .st _ => true
  | _ => false

mutual
/-- The cells of a value of a type. -/
def Ty : TC → List AV → Prop
  | .int, cs => ∃ n : Int, (-9223372036854775808 ≤ n ∧ n ≤ 9223372036854775807) ∧ cs = [.int n]
  | .bool, cs => ∃ b : Bool, cs = [.bool b]
  | .st l, cs => TyL l cs
  | .sl e, cs => ∃ es : List (List AV), cs = [.sl e.size (es.map fun x => if e.isSt then .agg x else x[0]?.getD .und) .sh] ∧ es.length < 9223372036854775808 ∧ ∀ x ∈ es, Ty e x
def TyL : List TC → List AV → Prop
  | [], cs => cs = []
  | c :: r, cs => ∃ a b, cs = a ++ b ∧ Ty c a ∧ TyL r b
end

mutual
def tcm (P : Program) : Nat → TypeId → TC → Bool
  | 0, _, _ => false
  | n + 1, t, tc =>
    match P.underlying t, tc with
    | some (.int .i64), .int => true
    | some .bool, .bool => true
    | some (.struct fs), .st l => tcfs P n fs.toList l 0 && P.cellsOf t == TC.sizes l
    | some (.slice e), .sl c => tcm P n e c && P.cellsOf e == c.size && c.size != 0
    | _, _ => false
def tcfs (P : Program) : Nat → List Field → List TC → Nat → Bool
  | _, [], [], _ => true
  | 0, _, _, _ => false
  | n + 1, f :: fs, c :: l, off => f.offset == off && P.cellsOf f.type == c.size && tcm P n f.type c && tcfs P n fs l (off + c.size)
  | _, _, _, _ => false
end

section
variable {P : Program} {H : Type} {enc : TypeId × Value → H} {w : World} {spare : Nat → Bool} {held : Bool}

/-- All memory that is there. -/
def CAll (w : World) : Nat → Nat → Prop := fun b _ => b < w.heap.size

theorem cval_all (w : World) : CVal (CAll w) w := fun _ _ h => h

/-- Cells that stand for abstract cells. -/
def RepCs (w : World) (cs : List Value) (avs : List AV) : Prop := avs.length = cs.length ∧ ∀ (j : Nat) (c : AV), avs[j]? = some c → c.isCell = true ∧ Rep0 (CAll w) w (cs[j]?.getD undef) c

theorem repCs_append {cs ds : List Value} {xs bs : List AV} (h : RepCs w cs xs) (k : RepCs w ds bs) : RepCs w (cs ++ ds) (xs ++ bs) := by
  refine ⟨by simp [h.1, k.1], fun j c hj => ?_⟩
  rcases Nat.lt_or_ge j xs.length with hl | hl
  · rw [List.getElem?_append_left hl] at hj
    rw [List.getElem?_append_left (by rw [← h.1]; exact hl)]
    exact h.2 j c hj
  · rw [List.getElem?_append_right hl] at hj
    rw [List.getElem?_append_right (by rw [← h.1]; exact hl), ← h.1]
    exact k.2 _ c hj

theorem repCs_one {v : Value} {c : AV} (hk : c.isCell = true) (h : Rep0 (CAll w) w v c) : RepCs w [v] [c] :=
  ⟨rfl, fun j d hj => by
    cases j with
    | zero => simp at hj; subst hj; exact ⟨hk, by simpa using h⟩
    | succ j => simp at hj⟩

theorem tyL_len : ∀ (l : List TC) (cs : List AV), (∀ c ∈ l, ∀ cs, Ty c cs → cs.length = c.size) → TyL l cs → cs.length = TC.sizes l
  | [], cs, _, h => by simp only [TyL] at h; subst h; rfl
  | c :: r, cs, hc, h => by
    simp only [TyL] at h
    obtain ⟨a, b, rfl, h1, h2⟩ := h
    rw [List.length_append, hc c (by simp) a h1, tyL_len r b (fun d hd => hc d (by simp [hd])) h2, TC.sizes]

theorem ty_len : ∀ (c : TC) (cs : List AV), Ty c cs → cs.length = c.size
  | .int, cs, h => by simp only [Ty] at h; obtain ⟨n, _, rfl⟩ := h; rfl
  | .bool, cs, h => by simp only [Ty] at h; obtain ⟨n, rfl⟩ := h; rfl
  | .sl e, cs, h => by simp only [Ty] at h; obtain ⟨n, rfl, _⟩ := h; rfl
  | .st l, cs, h => by
    simp only [Ty] at h
    rw [TC.size]
    exact tyL_len l cs (fun c hc cs h => ty_len c cs h) h

theorem spot_none {a : Addr} {v : Value} (h : w.cell? a = some v) : a.spot = none := by
  unfold World.cell? at h
  split at h
  · split at h
    · simp at h
    · rename_i hs
      cases ha : a.spot with
      | none => rfl
      | some x => simp [ha] at hs
  · simp at h

theorem cell_block {a : Addr} {v : Value} (h : w.cell? a = some v) : a.block < w.heap.size := by
  unfold World.cell? at h
  split at h
  · rename_i hb
    exact (Array.getElem?_eq_some_iff.1 hb).1
  · simp at h

theorem wf_i64 {n : Int} (h : (Lit.int .i64 n).wf = true) : -9223372036854775808 ≤ n ∧ n ≤ 9223372036854775807 := by
  simp [Lit.wf, IntKind.min, IntKind.max, IntKind.signed, IntKind.bits] at h
  omega

/-- What is read is what it stands for. -/
theorem trod_rep : ∀ (n : Nat) (g : Nat) (t : TypeId) (tc : TC) (cs : List Value) (x : DataW H × List MemPlace), tcm P g t tc = true → DataW.trod enc P w 0 spare held n t cs = some x →
    ∃ avs, RepCs w cs avs ∧ Ty tc avs := by
  intro n
  induction n with
  | zero => intro g t tc cs x _ h; simp [DataW.trod] at h
  | succ n ih =>
    intro g t tc cs x hm h
    cases g with
    | zero => simp [tcm] at hm
    | succ g =>
      unfold tcm at hm
      split at hm
      · rename_i hu
        obtain ⟨k, rfl, _, hw⟩ := DataW.trod_int hu h
        exact ⟨[.int k], repCs_one rfl (.int k), by simp only [Ty]; exact ⟨k, wf_i64 hw, rfl⟩⟩
      · rename_i hu
        obtain ⟨k, rfl, _⟩ := DataW.trod_bool hu h
        exact ⟨[.bool k], repCs_one rfl (.bool k), by simp only [Ty]; exact ⟨k, rfl⟩⟩
      · rename_i fs l hu
        simp only [Bool.and_eq_true, beq_iff_eq] at hm
        obtain ⟨hm1, hm2⟩ := hm
        obtain ⟨xs, n', hn, _, hlen, hxl, hf⟩ := DataW.trod_struct hu h
        have hn' : n' = n := by omega
        subst hn'
        have key : ∀ (fsl : List Field) (l : List TC) (g off : Nat), tcfs P g fsl l off = true → (∀ f ∈ fsl, ∃ y, DataW.trod enc P w 0 spare held n' f.type ((cs.drop f.offset).take (P.cellsOf f.type)) = some y) → off + TC.sizes l ≤ cs.length →
            ∃ avs, RepCs w ((cs.drop off).take (TC.sizes l)) avs ∧ TyL l avs := by
          intro fsl
          induction fsl with
          | nil =>
            intro l g off h1 _ _
            cases l with
            | nil => exact ⟨[], ⟨by simp [TC.sizes], fun j c hj => by simp at hj⟩, by simp only [TyL]⟩
            | cons c r => cases g <;> simp [tcfs] at h1
          | cons f fsl ihf =>
            intro l g off h1 h2 h3
            cases l with
            | nil => cases g <;> simp [tcfs] at h1
            | cons c r =>
              cases g with
              | zero => simp [tcfs] at h1
              | succ g =>
                simp only [tcfs, Bool.and_eq_true, beq_iff_eq] at h1
                obtain ⟨⟨⟨e1, e2⟩, e3⟩, e4⟩ := h1
                obtain ⟨y, hy⟩ := h2 f (by simp)
                obtain ⟨a, ha1, ha2⟩ := ih g f.type c _ y e3 hy
                simp only [TC.sizes] at h3
                obtain ⟨b, hb1, hb2⟩ := ihf r g (off + c.size) e4 (fun f' hf' => h2 f' (by simp [hf'])) (by omega)
                refine ⟨a ++ b, ?_, by simp only [TyL]; exact ⟨a, b, rfl, ha2, hb2⟩⟩
                have : (cs.drop off).take (TC.sizes (c :: r)) = (cs.drop f.offset).take (P.cellsOf f.type) ++ (cs.drop (off + c.size)).take (TC.sizes r) := by
                  rw [e1, e2, TC.sizes, List.take_add, List.drop_drop]
                rw [this]
                exact repCs_append ha1 hb1
        have hall : ∀ f ∈ fs.toList, ∃ y, DataW.trod enc P w 0 spare held n' f.type ((cs.drop f.offset).take (P.cellsOf f.type)) = some y := by
          intro f hff
          obtain ⟨i, hi⟩ := List.getElem?_of_mem hff
          have hi' : fs[i]? = some f := by simpa using hi
          have hlt : i < xs.length := by rw [hxl]; exact (Array.getElem?_eq_some_iff.1 hi').1
          rw [hf i f hi']
          exact ⟨xs[i], by simp [hlt]⟩
        obtain ⟨avs, h1, h2⟩ := key fs.toList l g 0 hm1 hall (by omega)
        refine ⟨avs, ?_, by simp only [Ty]; exact h2⟩
        rwa [List.drop_zero, List.take_of_length_le (by omega)] at h1
      · rename_i e c hu
        simp only [Bool.and_eq_true, beq_iff_eq, bne_iff_ne] at hm
        obtain ⟨⟨hm1, hm2⟩, hm3⟩ := hm
        rcases DataW.trod_slice hu h with ⟨rfl, _⟩ | ⟨a, len, cap, elems, rest, n', hn, rfl, _, hb, hl, hcap, hel, hei, _, _⟩
        · refine ⟨[.sl c.size [] .sh], repCs_one rfl (.sl0 _ _ _), ?_⟩
          simp only [Ty]
          exact ⟨[], rfl, by simp, fun x hx => by simp at hx⟩
        · have hn' : n' = n := by omega
          subst hn'
          rw [hm2] at hei
          have hone : ∀ i, i < len → ∃ p : List Value × List AV, w.cells? 0 (a.add (i * c.size)) c.size = some p.1 ∧ RepCs w p.1 p.2 ∧ Ty c p.2 := by
            intro i hi
            have := hei i hi
            have hlt : i < elems.length := by omega
            rw [List.getElem?_eq_getElem hlt] at this
            obtain ⟨csi, h1, h2⟩ := Option.bind_eq_some_iff.1 this
            obtain ⟨avs, h3, h4⟩ := ih g e c csi _ hm1 h2
            exact ⟨(csi, avs), h1, h3, h4⟩
          obtain ⟨F, hF⟩ := Go.Deep.choose_lt hone
          have hlen2 : ((List.range len).map fun i => (F i).2).length = len := by simp
          have hty : Ty (.sl c) [.sl c.size (((List.range len).map fun i => (F i).2).map fun x => if c.isSt then .agg x else x[0]?.getD .und) .sh] := by
            simp only [Ty]
            refine ⟨_, rfl, by rw [hlen2]; have : maxLen = 9223372036854775807 := by decide
                               omega, fun x hx => ?_⟩
            obtain ⟨i, hi, rfl⟩ := List.mem_map.1 hx
            exact (hF i (List.mem_range.1 hi)).2.2
          refine ⟨_, repCs_one rfl ?_, hty⟩
          by_cases h0 : len = 0
          · subst h0
            exact .sl0 _ _ _
          · have hc0 := (World.cells?_some (hF 0 (by omega)).1).2.2 0 (by omega)
            have hl0 := (World.cells?_some (hF 0 (by omega)).1).2.1
            rw [List.getElem?_eq_getElem (by omega)] at hc0
            have hsp := spot_none hc0
            have hblk := cell_block hc0
            simp only [Addr.add, Nat.zero_mul, if_true] at hsp hblk
            obtain ⟨blk, o, sp⟩ := a
            simp only at hsp hblk
            subst hsp
            have hadd : ∀ o k, (⟨blk, o, none⟩ : Addr).add k = ⟨blk, o + k, none⟩ := by
              intro o k
              unfold Addr.add
              split
              · rename_i hk; subst hk; rfl
              · rfl
            have hget : ∀ (i : Nat) (e : AV), (((List.range len).map fun i => (F i).2).map fun x => if c.isSt then AV.agg x else x[0]?.getD .und)[i]? = some e → i < len ∧ e = (if c.isSt then AV.agg (F i).2 else (F i).2[0]?.getD .und) := by
              intro i e he
              have hlt := (List.getElem?_eq_some_iff.1 he).1
              simp only [List.length_map, List.length_range] at hlt
              simp only [List.getElem?_map, List.getElem?_range hlt, Option.map_some, Option.some.injEq] at he
              exact ⟨hlt, he.symm⟩
            -- an element's cells
            have hcells : ∀ i, i < len → (if c.isSt then AV.agg (F i).2 else (F i).2[0]?.getD .und).cells = (F i).2 ∧ (if c.isSt then AV.agg (F i).2 else (F i).2[0]?.getD .und).isElem = true := by
              intro i hi
              obtain ⟨_, hr, hti⟩ := hF i hi
              by_cases hs : c.isSt = true
              · rw [if_pos hs]; exact ⟨rfl, rfl⟩
              · rw [if_neg hs]
                have hsz : c.size = 1 := by cases c <;> first | rfl | (simp [TC.isSt] at hs)
                have hl1 := ty_len c _ hti
                rw [hsz] at hl1
                match hF2 : (F i).2, hl1 with
                | [y], _ =>
                  have hy := (hr.2 0 y (by rw [hF2]; rfl)).1
                  simp only [List.getElem?_cons_zero, Option.getD_some]
                  refine ⟨?_, ?_⟩
                  · cases y <;> first | rfl | (simp [AV.isCell] at hy)
                  · cases y <;> first | rfl | (simp [AV.isCell] at hy)
            have hFl : ∀ i, i < len → (F i).2.length = c.size := fun i hi => ty_len c _ (hF i hi).2.2
            refine .sl blk o len cap c.size _ (fun i j => ((F i).1[j]?.getD undef)) (by simp) hl ?_ ?_ ?_ ?_ ?_ ?_
            · intro i e he
              obtain ⟨hi, rfl⟩ := hget i e he
              rw [(hcells i hi).1]; exact hFl i hi
            · intro i e he
              obtain ⟨hi, rfl⟩ := hget i e he
              exact (hcells i hi).2
            · intro i j _ _
              exact hblk
            · intro i j hi hj
              have hi : i < len := by simpa using hi
              have hc := (World.cells?_some (hF i hi).1).2.2 j hj
              have hl2 := (World.cells?_some (hF i hi).1).2.1
              rw [hadd, hadd, List.getElem?_eq_getElem (by omega)] at hc
              rw [hc]
              simp [show j < (F i).1.length by omega]
            · intro i e he j d hj
              obtain ⟨hi, rfl⟩ := hget i e he
              rw [(hcells i hi).1] at hj
              exact ((hF i hi).2.1.2 j d hj).1
            · intro i e he j d hj
              obtain ⟨hi, rfl⟩ := hget i e he
              rw [(hcells i hi).1] at hj
              exact ((hF i hi).2.1.2 j d hj).2
      · simp at hm

/-- A value of a type. -/
def TyV : TC → AV → Prop
  | .st l, av => ∃ cs, av = .agg cs ∧ TyL l cs
  | c, av => Ty c [av]

theorem trod_val {t : TypeId} {tc : TC} {v : Value} {d : DataW H} {p : List MemPlace} {r : Reach} {b0 g : Nat} (hm : tcm P g t tc = true) (hok : Value.okWide P w r b0 t v) (h : DataW.Trod enc P w 0 spare held t v d p) :
    ∃ av, Rep0 (CAll w) w v av ∧ TyV tc av := by
  obtain ⟨n, h⟩ := h
  obtain ⟨avs, h1, h2⟩ := trod_rep n g t tc _ _ hm h
  have one : v.cells = #[v] → tc.isSt = false → ∃ av, Rep0 (CAll w) w v av ∧ TyV tc av := by
    intro hv hs
    rw [hv] at h1
    have hl := h1.1
    match avs, hl with
    | [c], _ =>
      have := (h1.2 0 c rfl).2
      refine ⟨c, by simpa using this, ?_⟩
      cases tc <;> first | exact h2 | (simp [TC.isSt] at hs)
  cases tc with
  | st l =>
    cases g with
    | zero => simp [tcm] at hm
    | succ g =>
      unfold tcm at hm
      split at hm <;> first | (simp at hm; done) | skip
      all_goals (rename_i heq; first | (cases heq; done) | skip)
      rename_i fs l' hu
      unfold Value.okWide at hok
      rw [hu] at hok
      obtain ⟨cs, rfl, _, _⟩ := hok
      simp only [Ty] at h2
      refine ⟨.agg avs, .agg cs avs ?_ (fun j c hj => (h1.2 j c hj).1) (fun j c hj => ?_), ⟨avs, rfl, h2⟩⟩
      · have := h1.1; simpa [Value.cells] using this.symm
      · simpa [Value.cells] using (h1.2 j c hj).2
  | _ =>
    refine one ?_ rfl
    cases v <;> first | rfl | skip
    exfalso
    cases g with
    | zero => simp [tcm] at hm
    | succ g =>
      unfold tcm at hm
      unfold Value.okWide at hok
      split at hm <;> first | (simp at hm; done) | skip
      all_goals (rename_i hu heq; first | (cases heq; done) | (simp [hu, Cell.okWide, Cell.ok] at hok; done))

/-- A law's contract at the row's step. -/
theorem calls_of_ctr {f : FuncId} {args : List AV} {vs : Array Value} (hc : Ctr P f args (.bool true)) (hr : Reps0 (CAll w) w vs args) (hg : GF (CAll w) w := by intro _ hx; cases hx) :
    Calls P f vs w fun e w' => e = .returned (.bool true) ∧ Below w.heap.size w w' :=
  (hc.2 (CAll w) w vs ⟨cval_all w, hg⟩ hr).mono fun e w' h => by
    obtain ⟨v, C', h1, h2, _, _, _, h3⟩ := h
    cases h3
    exact ⟨h1, h2⟩

theorem reps_list {vs : List Value} {avs : List AV} (h : vs.length = avs.length) (hk : ∀ (j : Nat) (v : Value) (a : AV), vs[j]? = some v → avs[j]? = some a → Rep0 (CAll w) w v a) : Reps0 (CAll w) w vs.toArray avs :=
  ⟨by simpa using h, fun j c hj => by
    have hlt : j < vs.length := by rw [h]; exact (List.getElem?_eq_some_iff.1 hj).1
    have := hk j vs[j] c (by simp [hlt]) hj
    simpa [hlt] using this⟩

end
end Go.V


/- The compact code of the functions, and that it is theirs. -/
namespace Go.Proofs.YtpangdaijhiohaaDoor
open Go Go.V
set_option maxRecDepth 100000

/-- steening/steeningtop.TopServed -/
def v3 : VC :=
 (.seq
 (.ops false [
   ⟨some 3, .box 3 3 (.t 0), none⟩,
   ⟨some 4, .box 4 2 (.t 1), none⟩,
   ⟨some 6, .mov (.k (.bool false)), none⟩] (some [2, 3, 4]))
 (.seq
 (.seq
 (.ops false [
   ⟨some 24, .load 3 true (.t 3) [], none⟩,
   ⟨some 25, .call 4 [.t 24], none⟩,
   ⟨some 26, .mov (.t 25), none⟩,
   ⟨some 27, .load 3 true (.t 3) [], some (26, false)⟩,
   ⟨some 28, .call 5 [.t 27], some (26, false)⟩,
   ⟨some 29, .bin .neq (.t 28) (.k (.int 0)), some (26, false)⟩,
   ⟨some 30, .pick (.t 26) (.k (.bool true)) (.t 29), none⟩,
   ⟨some 31, .mov (.t 30), none⟩,
   ⟨some 32, .load 2 true (.t 4) [], some (31, false)⟩,
   ⟨some 33, .call 6 [.t 32], some (31, false)⟩,
   ⟨some 34, .pick (.t 31) (.k (.bool true)) (.t 33), none⟩,
   ⟨some 35, .mov (.t 34), none⟩,
   ⟨some 36, .load 2 true (.t 4) [], some (35, false)⟩,
   ⟨some 37, .call 7 [.t 36], some (35, false)⟩,
   ⟨some 38, .bin .neq (.t 37) (.k (.int 0)), some (35, false)⟩,
   ⟨some 39, .pick (.t 35) (.k (.bool true)) (.t 38), none⟩,
   ⟨some 40, .mov (.t 39), none⟩,
   ⟨some 41, .fld 0 (.t 4), some (40, false)⟩,
   ⟨some 42, .load 1 false (.t 41) [], some (40, false)⟩,
   ⟨some 43, .len (.t 42), some (40, false)⟩,
   ⟨some 44, .fld 1 (.t 3), some (40, false)⟩,
   ⟨some 45, .load 1 false (.t 44) [], some (40, false)⟩,
   ⟨some 46, .len (.t 45), some (40, false)⟩,
   ⟨some 47, .bin .neq (.t 43) (.t 46), some (40, false)⟩,
   ⟨some 48, .pick (.t 40) (.k (.bool true)) (.t 47), none⟩,
   ⟨some 49, .mov (.t 48), none⟩,
   ⟨some 50, .mov (.t 2), some (49, false)⟩,
   ⟨some 51, .call 8 [.t 50, .k (.int 0), .k (.int 39)], some (49, false)⟩,
   ⟨some 52, .not (.t 51), some (49, false)⟩,
   ⟨some 53, .pick (.t 49) (.k (.bool true)) (.t 52), none⟩] (some [2, 3, 4, 53]))
 (.cond (.t 53)
  (.seq
  (.ops false [
    ⟨some 54, .call 9 [], none⟩,
    ⟨some 6, .mov (.t 54), none⟩] (some [6]))
  .ret)
  .skip))
 (.seq
 (.ops false [
   ⟨some 56, .load 3 true (.t 3) [], none⟩,
   ⟨some 57, .load 2 true (.t 4) [], none⟩,
   ⟨some 58, .mov (.t 2), none⟩,
   ⟨some 59, .call 10 [.t 56, .t 57, .t 58], none⟩,
   ⟨some 55, .mov (.t 59), none⟩,
   ⟨some 60, .ext (.t 55) 0, none⟩,
   ⟨some 61, .ext (.t 55) 1, none⟩,
   ⟨some 7, .alloc 7 [.sl 1 [] .full, .sl 1 [] .full, .sl 2 [] .full], none⟩,
   ⟨none, .store 3 (.t 7) (.t 60) (some 7), none⟩,
   ⟨some 8, .mov (.t 61), none⟩] (some [2, 3, 4, 7, 8]))
 (.seq
 (.ops false [
   ⟨some 63, .load 3 true (.t 3) [], none⟩,
   ⟨some 64, .load 2 true (.t 4) [], none⟩,
   ⟨some 65, .mov (.t 2), none⟩,
   ⟨some 66, .bin .add (.t 65) (.k (.int 1)), none⟩,
   ⟨some 67, .call 10 [.t 63, .t 64, .t 66], none⟩,
   ⟨some 62, .mov (.t 67), none⟩,
   ⟨some 68, .ext (.t 62) 0, none⟩,
   ⟨some 69, .ext (.t 62) 1, none⟩,
   ⟨some 9, .alloc 9 [.sl 1 [] .full, .sl 1 [] .full, .sl 2 [] .full], none⟩,
   ⟨none, .store 3 (.t 9) (.t 68) (some 9), none⟩,
   ⟨some 10, .mov (.t 69), none⟩] (some [2, 3, 4, 7, 8, 9, 10]))
 (.seq
 (.ops false [
   ⟨some 71, .load 2 true (.t 4) [], none⟩,
   ⟨some 72, .mov (.t 2), none⟩,
   ⟨some 73, .call 11 [.t 71, .t 72], none⟩,
   ⟨some 70, .mov (.t 73), none⟩,
   ⟨some 74, .ext (.t 70) 0, none⟩,
   ⟨some 75, .ext (.t 70) 1, none⟩,
   ⟨some 11, .mov (.t 74), none⟩,
   ⟨some 12, .mov (.t 75), none⟩] (some [2, 3, 4, 7, 8, 9, 10, 11, 12]))
 (.seq
 (.ops false [
   ⟨some 77, .load 2 true (.t 4) [], none⟩,
   ⟨some 78, .mov (.t 2), none⟩,
   ⟨some 79, .call 12 [.t 77, .t 78], none⟩,
   ⟨some 76, .mov (.t 79), none⟩,
   ⟨some 80, .ext (.t 76) 0, none⟩,
   ⟨some 81, .ext (.t 76) 1, none⟩,
   ⟨some 13, .mov (.t 80), none⟩,
   ⟨some 14, .mov (.t 81), none⟩] (some [2, 3, 7, 8, 9, 10, 11, 12, 13, 14]))
 (.seq
 (.seq
 (.ops false [
   ⟨some 82, .mov (.t 8), none⟩,
   ⟨some 83, .not (.t 82), none⟩,
   ⟨some 84, .mov (.t 83), none⟩,
   ⟨some 85, .mov (.t 10), some (84, false)⟩,
   ⟨some 86, .not (.t 85), some (84, false)⟩,
   ⟨some 87, .pick (.t 84) (.k (.bool true)) (.t 86), none⟩,
   ⟨some 88, .mov (.t 87), none⟩,
   ⟨some 89, .mov (.t 12), some (88, false)⟩,
   ⟨some 90, .bin .neq (.t 89) (.k (.int 0)), some (88, false)⟩,
   ⟨some 91, .pick (.t 88) (.k (.bool true)) (.t 90), none⟩,
   ⟨some 92, .mov (.t 91), none⟩,
   ⟨some 93, .mov (.t 14), some (92, false)⟩,
   ⟨some 94, .bin .neq (.t 93) (.k (.int 0)), some (92, false)⟩,
   ⟨some 95, .mov (.t 94), some (92, false)⟩,
   ⟨some 96, .mov (.t 14), some (95, true)⟩,
   ⟨some 97, .bin .neq (.t 96) (.k (.int 3)), some (95, true)⟩,
   ⟨some 98, .pick (.t 95) (.t 97) (.k (.bool false)), some (92, false)⟩,
   ⟨some 99, .pick (.t 92) (.k (.bool true)) (.t 98), none⟩,
   ⟨some 100, .mov (.t 99), none⟩,
   ⟨some 101, .mov (.t 14), some (100, false)⟩,
   ⟨some 102, .bin .eql (.t 101) (.k (.int 0)), some (100, false)⟩,
   ⟨some 103, .mov (.t 102), some (100, false)⟩,
   ⟨some 104, .load 3 true (.t 3) [], some (103, true)⟩,
   ⟨some 105, .mov (.t 13), some (103, true)⟩,
   ⟨some 106, .call 13 [.t 104, .t 105], some (103, true)⟩,
   ⟨some 107, .not (.t 106), some (103, true)⟩,
   ⟨some 108, .pick (.t 103) (.t 107) (.k (.bool false)), some (100, false)⟩,
   ⟨some 109, .pick (.t 100) (.k (.bool true)) (.t 108), none⟩] (some [2, 3, 7, 9, 11, 13, 14, 109]))
 (.cond (.t 109)
  (.seq
  (.ops false [
    ⟨some 6, .mov (.k (.bool false)), none⟩] (some [6]))
  .ret)
  .skip))
 (.seq
 (.seq
 (.ops false [
   ⟨some 110, .load 3 true (.t 9) [], none⟩,
   ⟨some 111, .call 4 [.t 110], none⟩,
   ⟨some 112, .mov (.t 111), none⟩,
   ⟨some 113, .load 3 true (.t 7) [], some (112, false)⟩,
   ⟨some 114, .call 4 [.t 113], some (112, false)⟩,
   ⟨some 115, .pick (.t 112) (.k (.bool true)) (.t 114), none⟩] (some [2, 3, 7, 9, 11, 13, 14, 115]))
 (.cond (.t 115)
  (.seq
  (.ops false [
    ⟨some 116, .call 9 [], none⟩,
    ⟨some 6, .mov (.t 116), none⟩] (some [6]))
  .ret)
  .skip))
 (.seq
 (.ops false [
   ⟨some 118, .load 3 true (.t 7) [], none⟩,
   ⟨some 119, .call 14 [.t 118], none⟩,
   ⟨some 117, .mov (.t 119), none⟩,
   ⟨some 120, .ext (.t 117) 0, none⟩,
   ⟨some 121, .ext (.t 117) 1, none⟩,
   ⟨some 15, .mov (.t 120), none⟩,
   ⟨some 12, .mov (.t 121), none⟩] (some [2, 3, 7, 9, 11, 12, 13, 14, 15]))
 (.seq
 (.ops false [
   ⟨some 123, .load 3 true (.t 9) [], none⟩,
   ⟨some 124, .call 14 [.t 123], none⟩,
   ⟨some 122, .mov (.t 124), none⟩,
   ⟨some 125, .ext (.t 122) 0, none⟩,
   ⟨some 126, .ext (.t 122) 1, none⟩,
   ⟨some 16, .mov (.t 125), none⟩,
   ⟨some 17, .mov (.t 126), none⟩] (some [2, 3, 7, 9, 11, 12, 13, 14, 15, 16, 17]))
 (.seq
 (.ops false [
   ⟨some 128, .load 3 true (.t 7) [], none⟩,
   ⟨some 129, .call 15 [.t 128], none⟩,
   ⟨some 127, .mov (.t 129), none⟩,
   ⟨some 130, .ext (.t 127) 0, none⟩,
   ⟨some 131, .ext (.t 127) 1, none⟩,
   ⟨some 18, .mov (.t 130), none⟩,
   ⟨some 19, .mov (.t 131), none⟩] (some [2, 3, 7, 9, 11, 12, 13, 14, 15, 16, 17, 18, 19]))
 (.seq
 (.ops false [
   ⟨some 133, .load 3 true (.t 9) [], none⟩,
   ⟨some 134, .call 15 [.t 133], none⟩,
   ⟨some 132, .mov (.t 134), none⟩,
   ⟨some 135, .ext (.t 132) 0, none⟩,
   ⟨some 136, .ext (.t 132) 1, none⟩,
   ⟨some 20, .mov (.t 135), none⟩,
   ⟨some 21, .mov (.t 136), none⟩] (some [2, 3, 7, 11, 12, 13, 14, 15, 16, 17, 18, 19, 20, 21]))
 (.seq
 (.seq
 (.ops false [
   ⟨some 137, .mov (.t 12), none⟩,
   ⟨some 138, .bin .neq (.t 137) (.k (.int 0)), none⟩,
   ⟨some 139, .mov (.t 138), none⟩,
   ⟨some 140, .mov (.t 17), some (139, false)⟩,
   ⟨some 141, .bin .neq (.t 140) (.k (.int 0)), some (139, false)⟩,
   ⟨some 142, .pick (.t 139) (.k (.bool true)) (.t 141), none⟩,
   ⟨some 143, .mov (.t 142), none⟩,
   ⟨some 144, .mov (.t 19), some (143, false)⟩,
   ⟨some 145, .bin .neq (.t 144) (.k (.int 0)), some (143, false)⟩,
   ⟨some 146, .pick (.t 143) (.k (.bool true)) (.t 145), none⟩,
   ⟨some 147, .mov (.t 146), none⟩,
   ⟨some 148, .mov (.t 21), some (147, false)⟩,
   ⟨some 149, .bin .neq (.t 148) (.k (.int 0)), some (147, false)⟩,
   ⟨some 150, .pick (.t 147) (.k (.bool true)) (.t 149), none⟩,
   ⟨some 151, .mov (.t 150), none⟩,
   ⟨some 152, .mov (.t 15), some (151, false)⟩,
   ⟨some 153, .len (.t 152), some (151, false)⟩,
   ⟨some 154, .fld 0 (.t 3), some (151, false)⟩,
   ⟨some 155, .load 1 false (.t 154) [], some (151, false)⟩,
   ⟨some 156, .len (.t 155), some (151, false)⟩,
   ⟨some 157, .bin .neq (.t 153) (.t 156), some (151, false)⟩,
   ⟨some 158, .pick (.t 151) (.k (.bool true)) (.t 157), none⟩,
   ⟨some 159, .mov (.t 158), none⟩,
   ⟨some 160, .mov (.t 16), some (159, false)⟩,
   ⟨some 161, .len (.t 160), some (159, false)⟩,
   ⟨some 162, .mov (.t 15), some (159, false)⟩,
   ⟨some 163, .len (.t 162), some (159, false)⟩,
   ⟨some 164, .bin .neq (.t 161) (.t 163), some (159, false)⟩,
   ⟨some 165, .pick (.t 159) (.k (.bool true)) (.t 164), none⟩,
   ⟨some 166, .mov (.t 165), none⟩,
   ⟨some 167, .mov (.t 15), some (166, false)⟩,
   ⟨some 168, .mov (.t 16), some (166, false)⟩,
   ⟨some 169, .call 16 [.t 167, .t 168], some (166, false)⟩,
   ⟨some 170, .pick (.t 166) (.k (.bool true)) (.t 169), none⟩,
   ⟨some 171, .mov (.t 170), none⟩,
   ⟨some 172, .mov (.t 20), some (171, false)⟩,
   ⟨some 173, .mov (.t 18), some (171, false)⟩,
   ⟨some 174, .bin .lss (.t 172) (.t 173), some (171, false)⟩,
   ⟨some 175, .pick (.t 171) (.k (.bool true)) (.t 174), none⟩,
   ⟨some 176, .mov (.t 175), none⟩,
   ⟨some 177, .mov (.t 20), some (176, false)⟩,
   ⟨some 178, .mov (.t 18), some (176, false)⟩,
   ⟨some 179, .bin .add (.t 178) (.k (.int 1)), some (176, false)⟩,
   ⟨some 180, .bin .gtr (.t 177) (.t 179), some (176, false)⟩,
   ⟨some 181, .pick (.t 176) (.k (.bool true)) (.t 180), none⟩,
   ⟨some 182, .mov (.t 181), none⟩,
   ⟨some 183, .mov (.t 18), some (182, false)⟩,
   ⟨some 184, .mov (.t 2), some (182, false)⟩,
   ⟨some 185, .mov (.t 11), some (182, false)⟩,
   ⟨some 186, .bin .sub (.t 184) (.t 185), some (182, false)⟩,
   ⟨some 187, .bin .gtr (.t 183) (.t 186), some (182, false)⟩,
   ⟨some 188, .pick (.t 182) (.k (.bool true)) (.t 187), none⟩] (some [3, 7, 13, 14, 15, 16, 188]))
 (.cond (.t 188)
  (.seq
  (.ops false [
    ⟨some 6, .mov (.k (.bool false)), none⟩] (some [6]))
  .ret)
  .skip))
 (.seq
 (.seq
 (.ops false [
   ⟨some 189, .mov (.t 14), none⟩,
   ⟨some 190, .bin .neq (.t 189) (.k (.int 0)), none⟩] (some [3, 7, 13, 15, 16, 190]))
 (.cond (.t 190)
  (.seq
  (.ops false [
    ⟨some 191, .mov (.t 15), none⟩,
    ⟨some 192, .mov (.t 16), none⟩,
    ⟨some 193, .call 17 [.t 191, .t 192], none⟩,
    ⟨some 194, .mov (.t 193), none⟩,
    ⟨some 195, .call 9 [], some (194, true)⟩,
    ⟨some 196, .pick (.t 194) (.t 195) (.k (.bool false)), none⟩,
    ⟨some 6, .mov (.t 196), none⟩] (some [6]))
  .ret)
  .skip))
 (.seq
 (.ops false [
   ⟨some 198, .load 3 true (.t 7) [], none⟩,
   ⟨some 199, .call 18 [.t 198], none⟩,
   ⟨some 197, .mov (.t 199), none⟩,
   ⟨some 200, .ext (.t 197) 0, none⟩,
   ⟨some 201, .ext (.t 197) 1, none⟩,
   ⟨some 22, .mov (.t 200), none⟩,
   ⟨some 23, .mov (.t 201), none⟩] (some [3, 13, 15, 16, 22, 23]))
 (.seq
 (.ops false [
   ⟨some 202, .mov (.t 23), none⟩,
   ⟨some 203, .bin .eql (.t 202) (.k (.int 0)), none⟩,
   ⟨some 204, .mov (.t 203), none⟩,
   ⟨some 205, .mov (.t 22), some (204, true)⟩,
   ⟨some 206, .len (.t 205), some (204, true)⟩,
   ⟨some 207, .fld 1 (.t 3), some (204, true)⟩,
   ⟨some 208, .load 1 false (.t 207) [], some (204, true)⟩,
   ⟨some 209, .len (.t 208), some (204, true)⟩,
   ⟨some 210, .bin .leq (.t 206) (.t 209), some (204, true)⟩,
   ⟨some 211, .pick (.t 204) (.t 210) (.k (.bool false)), none⟩,
   ⟨some 212, .mov (.t 211), none⟩,
   ⟨some 213, .mov (.t 22), some (212, true)⟩,
   ⟨some 214, .mov (.t 13), some (212, true)⟩,
   ⟨some 215, .call 19 [.t 213, .t 214], some (212, true)⟩,
   ⟨some 216, .mov (.t 16), some (212, true)⟩,
   ⟨some 217, .mov (.t 15), some (212, true)⟩,
   ⟨some 218, .call 16 [.t 216, .t 217], some (212, true)⟩,
   ⟨some 219, .bin .beq (.t 215) (.t 218), some (212, true)⟩,
   ⟨some 220, .pick (.t 212) (.t 219) (.k (.bool false)), none⟩,
   ⟨some 221, .mov (.t 220), none⟩,
   ⟨some 222, .call 9 [], some (221, true)⟩,
   ⟨some 223, .pick (.t 221) (.t 222) (.k (.bool false)), none⟩,
   ⟨some 6, .mov (.t 223), none⟩] (some [6]))
 .ret))))))))))))))))

theorem m3 : fmatch Tryd.prog Tryd.f3 3 [.tmp 6] v3 = true := by kernel_rfl

/-- steening/steeninglaw03.Far -/
def v4 : VC :=
 (.seq
 (.ops false [
   ⟨some 1, .box 1 3 (.t 0), none⟩,
   ⟨some 2, .mov (.k (.bool false)), none⟩] (some [1]))
 (.seq
 (.seq
 (.ops false [
   ⟨some 5, .load 3 true (.t 1) [], none⟩,
   ⟨some 6, .call 20 [.t 5], none⟩] (some [1, 6]))
 (.cond (.t 6)
  (.seq
  (.ops false [
    ⟨some 2, .mov (.k (.bool true)), none⟩] (some [2]))
  .ret)
  .skip))
 (.seq
 (.seq
 (.ops false [
   ⟨some 7, .load 3 true (.t 1) [], none⟩,
   ⟨some 8, .call 5 [.t 7], none⟩,
   ⟨some 9, .bin .neq (.t 8) (.k (.int 0)), none⟩] (some [1, 9]))
 (.cond (.t 9)
  (.seq
  (.ops false [
    ⟨some 2, .mov (.k (.bool false)), none⟩] (some [2]))
  .ret)
  .skip))
 (.seq
 (.ops false [
   ⟨some 3, .mov (.k (.int 1)), none⟩] (some [1, 3]))
 (.seq
 (.seq
 (.ops false [
   ⟨some 4, .mov (.k (.int 0)), none⟩] (some [1, 3, 4]))
 (.block 0
  (.loop
   (.seq
   (.seq
   (.ops false [
     ⟨some 10, .mov (.t 4), none⟩,
     ⟨some 11, .fld 2 (.t 1), none⟩,
     ⟨some 12, .load 1 false (.t 11) [], none⟩,
     ⟨some 13, .len (.t 12), none⟩,
     ⟨some 14, .bin .lss (.t 10) (.t 13), none⟩] (some [1, 3, 4, 14]))
   (.cond (.t 14)
    .skip
    (.exit 0)))
   (.seq
   (.block 1
    (.seq
    (.ops true [
      ⟨some 17, .mov (.t 3), none⟩,
      ⟨some 18, .fld 0 (.t 1), none⟩,
      ⟨some 19, .load 1 false (.t 18) [], none⟩,
      ⟨some 20, .fld 2 (.t 1), none⟩,
      ⟨some 21, .load 1 false (.t 20) [], none⟩,
      ⟨some 22, .mov (.t 4), none⟩,
      ⟨some 23, .idx 2 (.t 21) (.t 22), none⟩,
      ⟨some 24, .fld 0 (.t 23), none⟩,
      ⟨some 25, .load 1 false (.t 24) [], none⟩,
      ⟨some 26, .idx 1 (.t 19) (.t 25), none⟩,
      ⟨some 27, .load 1 false (.t 26) [], none⟩,
      ⟨some 28, .fld 1 (.t 1), none⟩,
      ⟨some 29, .load 1 false (.t 28) [], none⟩,
      ⟨some 30, .fld 2 (.t 1), none⟩,
      ⟨some 31, .load 1 false (.t 30) [], none⟩,
      ⟨some 32, .mov (.t 4), none⟩,
      ⟨some 33, .idx 2 (.t 31) (.t 32), none⟩,
      ⟨some 34, .fld 1 (.t 33), none⟩,
      ⟨some 35, .load 1 false (.t 34) [], none⟩,
      ⟨some 36, .idx 1 (.t 29) (.t 35), none⟩,
      ⟨some 37, .load 1 false (.t 36) [], none⟩,
      ⟨some 38, .min (.t 27) (.t 37), none⟩,
      ⟨some 39, .bin .add (.t 38) (.k (.int 1)), none⟩,
      ⟨some 40, .bin .mul (.t 17) (.t 39), none⟩,
      ⟨some 3, .mov (.t 40), none⟩] (some [1, 3, 4]))
    (.seq
    (.ops false [
      ⟨some 41, .mov (.t 3), none⟩,
      ⟨some 42, .bin .gtr (.t 41) (.k (.int 2000)), none⟩] (some [1, 3, 4, 42]))
    (.cond (.t 42)
     (.seq
     (.ops false [
       ⟨some 2, .mov (.k (.bool true)), none⟩] (some [2]))
     .ret)
     .skip))))
   (.ops false [
     ⟨some 15, .mov (.t 4), none⟩,
     ⟨some 16, .bin .add (.t 15) (.k (.int 1)), none⟩,
     ⟨some 4, .mov (.t 16), none⟩] (some [1, 3, 4])))))))
 (.seq
 (.ops false [
   ⟨some 2, .mov (.k (.bool false)), none⟩] (some [2]))
 .ret))))))

theorem m4 : fmatch Tryd.prog Tryd.f4 1 [.tmp 2] v4 = true := by kernel_rfl

/-- steening/steeningref03.Check -/
def v5 : VC :=
 (.seq
 (.ops false [
   ⟨some 1, .box 1 3 (.t 0), none⟩,
   ⟨some 2, .mov (.k (.int 0)), none⟩] (some [1]))
 (.seq
 (.seq
 (.ops false [
   ⟨some 3, .fld 2 (.t 1), none⟩,
   ⟨some 4, .load 1 false (.t 3) [], none⟩,
   ⟨some 5, .len (.t 4), none⟩,
   ⟨some 6, .bin .gtr (.t 5) (.k (.int 12)), none⟩,
   ⟨some 7, .mov (.t 6), none⟩,
   ⟨some 8, .load 3 true (.t 1) [], some (7, false)⟩,
   ⟨some 9, .call 21 [.t 8], some (7, false)⟩,
   ⟨some 10, .not (.t 9), some (7, false)⟩,
   ⟨some 11, .pick (.t 7) (.k (.bool true)) (.t 10), none⟩] (some [11]))
 (.cond (.t 11)
  (.seq
  (.ops false [
    ⟨some 2, .mov (.k (.int 30)), none⟩] (some [2]))
  .ret)
  .skip))
 (.seq
 (.ops false [
   ⟨some 2, .mov (.k (.int 0)), none⟩] (some [2]))
 .ret)))

theorem m5 : fmatch Tryd.prog Tryd.f5 1 [.tmp 2] v5 = true := by kernel_rfl

/-- steening/steeninglaw07.Far -/
def v6 : VC :=
 (.seq
 (.ops false [
   ⟨some 1, .box 1 2 (.t 0), none⟩,
   ⟨some 2, .mov (.k (.bool false)), none⟩] (some [1]))
 (.seq
 (.ops false [
   ⟨some 3, .fld 0 (.t 1), none⟩,
   ⟨some 4, .load 1 false (.t 3) [], none⟩,
   ⟨some 5, .len (.t 4), none⟩,
   ⟨some 6, .bin .gtr (.t 5) (.k (.int 40)), none⟩,
   ⟨some 7, .mov (.t 6), none⟩,
   ⟨some 8, .fld 1 (.t 1), some (7, false)⟩,
   ⟨some 9, .load 1 false (.t 8) [], some (7, false)⟩,
   ⟨some 10, .len (.t 9), some (7, false)⟩,
   ⟨some 11, .bin .gtr (.t 10) (.k (.int 40)), some (7, false)⟩,
   ⟨some 12, .pick (.t 7) (.k (.bool true)) (.t 11), none⟩,
   ⟨some 2, .mov (.t 12), none⟩] (some [2]))
 .ret))

theorem m6 : fmatch Tryd.prog Tryd.f6 1 [.tmp 2] v6 = true := by kernel_rfl

/-- steening/steeningref07.Check -/
def v7 : VC :=
 (.seq
 (.ops false [
   ⟨some 1, .box 1 2 (.t 0), none⟩,
   ⟨some 2, .mov (.k (.int 0)), none⟩] (some [1]))
 (.seq
 (.seq
 (.ops false [
   ⟨some 4, .fld 0 (.t 1), none⟩,
   ⟨some 5, .load 1 false (.t 4) [], none⟩,
   ⟨some 6, .len (.t 5), none⟩,
   ⟨some 7, .bin .gtr (.t 6) (.k (.int 5)), none⟩,
   ⟨some 8, .mov (.t 7), none⟩,
   ⟨some 9, .fld 1 (.t 1), some (8, false)⟩,
   ⟨some 10, .load 1 false (.t 9) [], some (8, false)⟩,
   ⟨some 11, .len (.t 10), some (8, false)⟩,
   ⟨some 12, .fld 0 (.t 1), some (8, false)⟩,
   ⟨some 13, .load 1 false (.t 12) [], some (8, false)⟩,
   ⟨some 14, .len (.t 13), some (8, false)⟩,
   ⟨some 15, .bin .neq (.t 11) (.t 14), some (8, false)⟩,
   ⟨some 16, .pick (.t 8) (.k (.bool true)) (.t 15), none⟩] (some [1, 16]))
 (.cond (.t 16)
  (.seq
  (.ops false [
    ⟨some 2, .mov (.k (.int 70)), none⟩] (some [2]))
  .ret)
  .skip))
 (.seq
 (.seq
 (.ops false [
   ⟨some 3, .mov (.k (.int 0)), none⟩] (some [1, 3]))
 (.block 0
  (.loop
   (.seq
   (.seq
   (.ops false [
     ⟨some 17, .mov (.t 3), none⟩,
     ⟨some 18, .fld 0 (.t 1), none⟩,
     ⟨some 19, .load 1 false (.t 18) [], none⟩,
     ⟨some 20, .len (.t 19), none⟩,
     ⟨some 21, .bin .lss (.t 17) (.t 20), none⟩] (some [1, 3, 21]))
   (.cond (.t 21)
    .skip
    (.exit 0)))
   (.seq
   (.block 1
    (.seq
    (.ops false [
      ⟨some 24, .fld 0 (.t 1), none⟩,
      ⟨some 25, .load 1 false (.t 24) [], none⟩,
      ⟨some 26, .mov (.t 3), none⟩,
      ⟨some 27, .idx 1 (.t 25) (.t 26), none⟩,
      ⟨some 28, .load 1 false (.t 27) [], none⟩,
      ⟨some 29, .call 22 [.t 28, .k (.int 0), .k (.int 20)], none⟩,
      ⟨some 30, .not (.t 29), none⟩,
      ⟨some 31, .mov (.t 30), none⟩,
      ⟨some 32, .fld 1 (.t 1), some (31, false)⟩,
      ⟨some 33, .load 1 false (.t 32) [], some (31, false)⟩,
      ⟨some 34, .mov (.t 3), some (31, false)⟩,
      ⟨some 35, .idx 1 (.t 33) (.t 34), some (31, false)⟩,
      ⟨some 36, .load 1 false (.t 35) [], some (31, false)⟩,
      ⟨some 37, .call 22 [.t 36, .k (.int 0), .k (.int 20)], some (31, false)⟩,
      ⟨some 38, .not (.t 37), some (31, false)⟩,
      ⟨some 39, .pick (.t 31) (.k (.bool true)) (.t 38), none⟩] (some [1, 3, 39]))
    (.cond (.t 39)
     (.seq
     (.ops false [
       ⟨some 2, .mov (.k (.int 70)), none⟩] (some [2]))
     .ret)
     .skip)))
   (.ops false [
     ⟨some 22, .mov (.t 3), none⟩,
     ⟨some 23, .bin .add (.t 22) (.k (.int 1)), none⟩,
     ⟨some 3, .mov (.t 23), none⟩] (some [1, 3])))))))
 (.seq
 (.ops false [
   ⟨some 2, .mov (.k (.int 0)), none⟩] (some [2]))
 .ret))))

theorem m7 : fmatch Tryd.prog Tryd.f7 1 [.tmp 2] v7 = true := by kernel_rfl

/-- steening/steeningref01.Within -/
def v8 : VC :=
 (.seq
 (.ops false [
   ⟨some 6, .mov (.k (.bool false)), none⟩] (some [0, 1, 2]))
 (.seq
 (.ops false [
   ⟨some 7, .mov (.t 1), none⟩,
   ⟨some 8, .mov (.t 0), none⟩,
   ⟨some 9, .bin .leq (.t 7) (.t 8), none⟩,
   ⟨some 10, .mov (.t 9), none⟩,
   ⟨some 11, .mov (.t 0), some (10, true)⟩,
   ⟨some 12, .mov (.t 2), some (10, true)⟩,
   ⟨some 13, .bin .leq (.t 11) (.t 12), some (10, true)⟩,
   ⟨some 14, .pick (.t 10) (.t 13) (.k (.bool false)), none⟩,
   ⟨some 6, .mov (.t 14), none⟩] (some [6]))
 .ret))

theorem m8 : fmatch Tryd.prog Tryd.f8 3 [.tmp 6] v8 = true := by kernel_rfl

/-- steening/steeningtop.shared -/
def v9 : VC :=
 (.seq
 (.ops false [
   ⟨some 0, .mov (.k (.bool false)), none⟩] (some []))
 (.seq
 (.ops false [
   ⟨some 11, .call 23 [], none⟩,
   ⟨some 10, .mov (.t 11), none⟩,
   ⟨some 12, .ext (.t 10) 0, none⟩,
   ⟨some 13, .ext (.t 10) 1, none⟩,
   ⟨some 14, .ext (.t 10) 2, none⟩,
   ⟨some 1, .alloc 1 [.sl 1 [] .full, .sl 1 [] .full, .sl 2 [] .full], none⟩,
   ⟨some 2, .alloc 2 [.sl 1 [] .full, .sl 1 [] .full, .sl 2 [] .full], none⟩,
   ⟨some 3, .alloc 3 [.sl 1 [] .full, .sl 1 [] .full, .sl 2 [] .full], none⟩,
   ⟨none, .store 3 (.t 1) (.t 12) (some 1), none⟩,
   ⟨none, .store 3 (.t 2) (.t 13) (some 2), none⟩,
   ⟨none, .store 3 (.t 3) (.t 14) (some 3), none⟩] (some [1]))
 (.seq
 (.ops false [
   ⟨some 16, .call 24 [], none⟩,
   ⟨some 15, .mov (.t 16), none⟩,
   ⟨some 17, .ext (.t 15) 0, none⟩,
   ⟨some 18, .ext (.t 15) 1, none⟩,
   ⟨some 4, .alloc 4 [.sl 1 [] .full, .sl 1 [] .full], none⟩,
   ⟨some 5, .alloc 5 [.sl 1 [] .full, .sl 1 [] .full], none⟩,
   ⟨none, .store 2 (.t 4) (.t 17) (some 4), none⟩,
   ⟨none, .store 2 (.t 5) (.t 18) (some 5), none⟩] (some [1, 4]))
 (.seq
 (.ops false [
   ⟨some 20, .load 3 true (.t 1) [], none⟩,
   ⟨some 21, .call 14 [.t 20], none⟩,
   ⟨some 19, .mov (.t 21), none⟩,
   ⟨some 22, .ext (.t 19) 0, none⟩,
   ⟨some 23, .ext (.t 19) 1, none⟩,
   ⟨some 6, .mov (.t 22), none⟩,
   ⟨some 7, .mov (.t 23), none⟩] (some [4, 6, 7]))
 (.seq
 (.ops false [
   ⟨some 25, .load 2 true (.t 4) [], none⟩,
   ⟨some 26, .call 25 [.t 25, .k (.int 6)], none⟩,
   ⟨some 24, .mov (.t 26), none⟩,
   ⟨some 27, .ext (.t 24) 0, none⟩,
   ⟨some 28, .ext (.t 24) 1, none⟩,
   ⟨some 8, .mov (.t 27), none⟩,
   ⟨some 9, .mov (.t 28), none⟩] (some [6, 7, 8, 9]))
 (.seq
 (.ops false [
   ⟨some 29, .mov (.t 7), none⟩,
   ⟨some 30, .bin .eql (.t 29) (.k (.int 0)), none⟩,
   ⟨some 31, .mov (.t 30), none⟩,
   ⟨some 32, .mov (.t 9), some (31, true)⟩,
   ⟨some 33, .bin .eql (.t 32) (.k (.int 0)), some (31, true)⟩,
   ⟨some 34, .pick (.t 31) (.t 33) (.k (.bool false)), none⟩,
   ⟨some 35, .mov (.t 34), none⟩,
   ⟨some 36, .mov (.t 6), some (35, true)⟩,
   ⟨some 37, .bslice 1 [.k (.int 2), .k (.int 2), .k (.int 1)], some (35, true)⟩,
   ⟨some 38, .call 17 [.t 36, .t 37], some (35, true)⟩,
   ⟨some 39, .pick (.t 35) (.t 38) (.k (.bool false)), none⟩,
   ⟨some 40, .mov (.t 39), none⟩,
   ⟨some 41, .mov (.t 8), some (40, true)⟩,
   ⟨some 42, .bslice 1 [.k (.int 3), .k (.int 2), .k (.int 1)], some (40, true)⟩,
   ⟨some 43, .call 17 [.t 41, .t 42], some (40, true)⟩,
   ⟨some 44, .pick (.t 40) (.t 43) (.k (.bool false)), none⟩,
   ⟨some 0, .mov (.t 44), none⟩] (some [0]))
 .ret))))))

theorem m9 : fmatch Tryd.prog Tryd.f9 0 [.tmp 0] v9 = true := by kernel_rfl

/-- steening/mouths.Over -/
def v11 : VC :=
 (.seq
 (.ops false [
   ⟨some 2, .box 2 2 (.t 0), none⟩,
   ⟨some 4, .mov (.k (.int 0)), none⟩,
   ⟨some 5, .mov (.k (.int 0)), none⟩] (some [1, 2]))
 (.seq
 (.ops false [
   ⟨some 9, .load 2 true (.t 2) [], none⟩,
   ⟨some 10, .mov (.t 1), none⟩,
   ⟨some 11, .call 25 [.t 9, .t 10], none⟩,
   ⟨some 8, .mov (.t 11), none⟩,
   ⟨some 12, .ext (.t 8) 0, none⟩,
   ⟨some 13, .ext (.t 8) 1, none⟩,
   ⟨some 6, .mov (.t 12), none⟩,
   ⟨some 7, .mov (.t 13), none⟩] (some [1, 6, 7]))
 (.seq
 (.seq
 (.ops false [
   ⟨some 14, .mov (.t 7), none⟩,
   ⟨some 15, .bin .neq (.t 14) (.k (.int 0)), none⟩] (some [1, 6, 7, 15]))
 (.cond (.t 15)
  (.seq
  (.ops false [
    ⟨some 16, .mov (.t 7), none⟩,
    ⟨some 4, .mov (.k (.int 0)), none⟩,
    ⟨some 5, .mov (.t 16), none⟩] (some [4, 5]))
  .ret)
  .skip))
 (.seq
 (.ops false [
   ⟨some 17, .mov (.t 1), none⟩,
   ⟨some 18, .mov (.t 6), none⟩,
   ⟨some 19, .call 27 [.t 18], none⟩,
   ⟨some 20, .bin .sub (.t 17) (.t 19), none⟩,
   ⟨some 4, .mov (.t 20), none⟩,
   ⟨some 5, .mov (.k (.int 0)), none⟩] (some [4, 5]))
 .ret))))

theorem m11 : fmatch Tryd.prog Tryd.f11 2 [.tmp 4, .tmp 5] v11 = true := by kernel_rfl

/-- steening/mouths.Turn -/
def v12 : VC :=
 (.seq
 (.ops false [
   ⟨some 2, .box 2 2 (.t 0), none⟩,
   ⟨some 3, .box 3 1 (.t 1), none⟩,
   ⟨some 4, .alloc 4 [.int 0], none⟩,
   ⟨some 5, .alloc 5 [.int 0], none⟩] (some [2, 3, 4, 5]))
 (.seq
 (.seq
 (.ops true [
   ⟨some 9, .load 2 true (.t 2) [], none⟩,
   ⟨some 10, .load 1 false (.t 3) [], none⟩,
   ⟨some 11, .call 29 [.t 10, .k (.int 0), .k (.int 39)], none⟩,
   ⟨some 12, .call 28 [.t 9, .t 11], none⟩,
   ⟨some 6, .mov (.t 12), none⟩] (some [2, 3, 4, 5, 6]))
 (.seq
 (.ops false [
   ⟨some 13, .mov (.t 6), none⟩,
   ⟨some 14, .bin .neq (.t 13) (.k (.int 0)), none⟩] (some [2, 3, 4, 5, 6, 14]))
 (.cond (.t 14)
  (.seq
  (.ops false [
    ⟨some 15, .mov (.t 6), none⟩,
    ⟨none, .store 1 (.t 4) (.k (.int 0)) (some 4), none⟩,
    ⟨none, .store 1 (.t 5) (.t 15) (some 5), none⟩] (some [4, 5]))
  .ret)
  .skip)))
 (.seq
 (.seq
 (.ops false [
   ⟨some 16, .load 2 true (.t 2) [], none⟩,
   ⟨some 17, .build [.sl 1 [] .sh, .sl 1 [] .sh, .int 0, .int 0, .int 0, .int 0, .int 0] [(0, 2, .t 16)], none⟩,
   ⟨some 18, .mkm 30 [.t 17], none⟩] (some [3, 4, 5, 18]))
 (.block 0
  (.range (.t 18) [19, 20]
   (.seq
   (.ops false [
     ⟨some 7, .mov (.t 19), none⟩] (some [3, 4, 5, 7, 20]))
   (.ops false [
     ⟨some 8, .mov (.t 20), none⟩] (some [3, 4, 5, 7, 8])))
   (.block 1
    (.seq
    (.seq
    (.ops false [
      ⟨some 21, .mov (.t 7), none⟩,
      ⟨some 22, .load 1 false (.t 3) [], none⟩,
      ⟨some 23, .bin .eql (.t 21) (.t 22), none⟩,
      ⟨some 24, .mov (.t 23), none⟩,
      ⟨some 25, .mov (.t 8), some (24, true)⟩,
      ⟨some 26, .bin .geq (.t 25) (.k (.int 0)), some (24, true)⟩,
      ⟨some 27, .pick (.t 24) (.t 26) (.k (.bool false)), none⟩] (some [3, 4, 5, 7, 8, 27]))
    (.cond (.t 27)
     (.seq
     (.ops false [
       ⟨some 28, .mov (.t 8), none⟩,
       ⟨none, .store 1 (.t 4) (.t 28) (some 4), none⟩,
       ⟨none, .store 1 (.t 5) (.k (.int 0)) (some 5), none⟩] (some []))
     .ret)
     .skip))
    (.seq
    (.ops false [
      ⟨some 29, .mov (.t 7), none⟩,
      ⟨some 30, .load 1 false (.t 3) [], none⟩,
      ⟨some 31, .bin .eql (.t 29) (.t 30), none⟩] (some [31]))
    (.cond (.t 31)
     (.exit 0)
     .skip)))))))
 (.seq
 (.ops false [
   ⟨none, .store 1 (.t 4) (.k (.int 0)) (some 4), none⟩,
   ⟨none, .store 1 (.t 5) (.k (.int 3)) (some 5), none⟩] (some [4, 5]))
 .ret))))

theorem m12 : fmatch Tryd.prog Tryd.f12 2 [.cell 4 3, .cell 5 29] v12 = true := by kernel_rfl

/-- steening/steeningref03.IsWell -/
def v13 : VC :=
 (.seq
 (.ops false [
   ⟨some 2, .box 2 3 (.t 0), none⟩,
   ⟨some 4, .mov (.k (.bool false)), none⟩] (some [1, 2]))
 (.seq
 (.ops false [
   ⟨some 5, .mov (.t 1), none⟩,
   ⟨some 6, .fld 1 (.t 2), none⟩,
   ⟨some 7, .load 1 false (.t 6) [], none⟩,
   ⟨some 8, .len (.t 7), none⟩,
   ⟨some 9, .bin .sub (.t 8) (.k (.int 1)), none⟩,
   ⟨some 10, .call 31 [.t 5, .k (.int 0), .t 9], none⟩,
   ⟨some 4, .mov (.t 10), none⟩] (some [4]))
 .ret))

theorem m13 : fmatch Tryd.prog Tryd.f13 2 [.tmp 4] v13 = true := by kernel_rfl

/-- steening/buckets.Lacks -/
def v14 : VC :=
 (.seq
 (.ops false [
   ⟨some 1, .box 1 3 (.t 0), none⟩,
   ⟨some 2, .nils 2 1, none⟩,
   ⟨some 3, .mov (.k (.int 0)), none⟩] (some [1]))
 (.seq
 (.seq
 (.ops false [
   ⟨some 5, .load 3 true (.t 1) [], none⟩,
   ⟨some 6, .call 32 [.t 5], none⟩,
   ⟨some 4, .mov (.t 6), none⟩] (some [1, 4]))
 (.seq
 (.ops false [
   ⟨some 7, .mov (.t 4), none⟩,
   ⟨some 8, .bin .neq (.t 7) (.k (.int 0)), none⟩] (some [1, 4, 8]))
 (.cond (.t 8)
  (.seq
  (.ops false [
    ⟨some 9, .mov (.t 4), none⟩,
    ⟨some 2, .nils 501 1, none⟩,
    ⟨some 3, .mov (.t 9), none⟩] (some [2, 3]))
  .ret)
  .skip)))
 (.seq
 (.ops false [
   ⟨some 10, .load 3 true (.t 1) [], none⟩,
   ⟨some 11, .call 33 [.t 10], none⟩,
   ⟨some 2, .mov (.t 11), none⟩,
   ⟨some 3, .mov (.k (.int 0)), none⟩] (some [2, 3]))
 .ret)))

theorem m14 : fmatch Tryd.prog Tryd.f14 1 [.tmp 2, .tmp 3] v14 = true := by kernel_rfl

/-- steening/buckets.Most -/
def v15 : VC :=
 (.seq
 (.ops false [
   ⟨some 1, .box 1 3 (.t 0), none⟩,
   ⟨some 2, .mov (.k (.int 0)), none⟩,
   ⟨some 3, .mov (.k (.int 0)), none⟩] (some [1]))
 (.seq
 (.seq
 (.ops false [
   ⟨some 5, .load 3 true (.t 1) [], none⟩,
   ⟨some 6, .call 32 [.t 5], none⟩,
   ⟨some 4, .mov (.t 6), none⟩] (some [1, 4]))
 (.seq
 (.ops false [
   ⟨some 7, .mov (.t 4), none⟩,
   ⟨some 8, .bin .neq (.t 7) (.k (.int 0)), none⟩] (some [1, 4, 8]))
 (.cond (.t 8)
  (.seq
  (.ops false [
    ⟨some 9, .mov (.t 4), none⟩,
    ⟨some 2, .mov (.k (.int 0)), none⟩,
    ⟨some 3, .mov (.t 9), none⟩] (some [2, 3]))
  .ret)
  .skip)))
 (.seq
 (.ops false [
   ⟨some 10, .load 3 true (.t 1) [], none⟩,
   ⟨some 11, .load 3 true (.k (.ref 3 [.agg [.int (-1), .int (-1), .int 0]] 0 0)) [], none⟩,
   ⟨some 12, .call 35 [.t 10, .t 11], none⟩,
   ⟨some 13, .call 34 [.t 12], none⟩,
   ⟨some 2, .mov (.t 13), none⟩,
   ⟨some 3, .mov (.k (.int 0)), none⟩] (some [2, 3]))
 .ret)))

theorem m15 : fmatch Tryd.prog Tryd.f15 1 [.tmp 2, .tmp 3] v15 = true := by kernel_rfl

/-- steening/steeningref01.Earlier -/
def v16 : VC :=
 (.seq
 (.ops false [
   ⟨some 4, .mov (.k (.bool false)), none⟩] (some [0, 1]))
 (.seq
 (.seq
 (.ops false [
   ⟨some 5, .mov (.k (.int 0)), none⟩] (some [0, 1, 5]))
 (.block 0
  (.loop
   (.seq
   (.seq
   (.ops false [
     ⟨some 6, .mov (.t 5), none⟩,
     ⟨some 7, .mov (.t 0), none⟩,
     ⟨some 8, .len (.t 7), none⟩,
     ⟨some 9, .bin .lss (.t 6) (.t 8), none⟩,
     ⟨some 10, .mov (.t 9), none⟩,
     ⟨some 11, .mov (.t 5), some (10, true)⟩,
     ⟨some 12, .mov (.t 1), some (10, true)⟩,
     ⟨some 13, .len (.t 12), some (10, true)⟩,
     ⟨some 14, .bin .lss (.t 11) (.t 13), some (10, true)⟩,
     ⟨some 15, .pick (.t 10) (.t 14) (.k (.bool false)), none⟩] (some [0, 1, 5, 15]))
   (.cond (.t 15)
    .skip
    (.exit 0)))
   (.seq
   (.block 1
    (.seq
    (.ops true [
      ⟨some 18, .mov (.t 0), none⟩,
      ⟨some 19, .mov (.t 5), none⟩,
      ⟨some 20, .idx 1 (.t 18) (.t 19), none⟩,
      ⟨some 21, .load 1 false (.t 20) [], none⟩,
      ⟨some 22, .mov (.t 1), none⟩,
      ⟨some 23, .mov (.t 5), none⟩,
      ⟨some 24, .idx 1 (.t 22) (.t 23), none⟩,
      ⟨some 25, .load 1 false (.t 24) [], none⟩,
      ⟨some 26, .bin .neq (.t 21) (.t 25), none⟩] (some [0, 1, 5, 26]))
    (.cond (.t 26)
     (.seq
     (.ops true [
       ⟨some 27, .mov (.t 0), none⟩,
       ⟨some 28, .mov (.t 5), none⟩,
       ⟨some 29, .idx 1 (.t 27) (.t 28), none⟩,
       ⟨some 30, .load 1 false (.t 29) [], none⟩,
       ⟨some 31, .mov (.t 1), none⟩,
       ⟨some 32, .mov (.t 5), none⟩,
       ⟨some 33, .idx 1 (.t 31) (.t 32), none⟩,
       ⟨some 34, .load 1 false (.t 33) [], none⟩,
       ⟨some 35, .bin .lss (.t 30) (.t 34), none⟩,
       ⟨some 4, .mov (.t 35), none⟩] (some [4]))
     .ret)
     .skip)))
   (.ops false [
     ⟨some 16, .mov (.t 5), none⟩,
     ⟨some 17, .bin .add (.t 16) (.k (.int 1)), none⟩,
     ⟨some 5, .mov (.t 17), none⟩] (some [0, 1, 5])))))))
 (.seq
 (.ops false [
   ⟨some 4, .mov (.k (.bool false)), none⟩] (some [4]))
 .ret)))

theorem m16 : fmatch Tryd.prog Tryd.f16 2 [.tmp 4] v16 = true := by kernel_rfl

/-- steening/steeningref01.SameInts -/
def v17 : VC :=
 (.seq
 (.ops false [
   ⟨some 4, .mov (.k (.bool false)), none⟩] (some [0, 1]))
 (.seq
 (.seq
 (.ops false [
   ⟨some 6, .mov (.t 0), none⟩,
   ⟨some 7, .len (.t 6), none⟩,
   ⟨some 8, .mov (.t 1), none⟩,
   ⟨some 9, .len (.t 8), none⟩,
   ⟨some 10, .bin .neq (.t 7) (.t 9), none⟩] (some [0, 1, 10]))
 (.cond (.t 10)
  (.seq
  (.ops false [
    ⟨some 4, .mov (.k (.bool false)), none⟩] (some [4]))
  .ret)
  .skip))
 (.seq
 (.seq
 (.ops false [
   ⟨some 5, .mov (.k (.int 0)), none⟩] (some [0, 1, 5]))
 (.block 0
  (.loop
   (.seq
   (.seq
   (.ops false [
     ⟨some 11, .mov (.t 5), none⟩,
     ⟨some 12, .mov (.t 0), none⟩,
     ⟨some 13, .len (.t 12), none⟩,
     ⟨some 14, .bin .lss (.t 11) (.t 13), none⟩] (some [0, 1, 5, 14]))
   (.cond (.t 14)
    .skip
    (.exit 0)))
   (.seq
   (.block 1
    (.seq
    (.ops true [
      ⟨some 17, .mov (.t 0), none⟩,
      ⟨some 18, .mov (.t 5), none⟩,
      ⟨some 19, .idx 1 (.t 17) (.t 18), none⟩,
      ⟨some 20, .load 1 false (.t 19) [], none⟩,
      ⟨some 21, .mov (.t 1), none⟩,
      ⟨some 22, .mov (.t 5), none⟩,
      ⟨some 23, .idx 1 (.t 21) (.t 22), none⟩,
      ⟨some 24, .load 1 false (.t 23) [], none⟩,
      ⟨some 25, .bin .neq (.t 20) (.t 24), none⟩] (some [0, 1, 5, 25]))
    (.cond (.t 25)
     (.seq
     (.ops false [
       ⟨some 4, .mov (.k (.bool false)), none⟩] (some [4]))
     .ret)
     .skip)))
   (.ops false [
     ⟨some 15, .mov (.t 5), none⟩,
     ⟨some 16, .bin .add (.t 15) (.k (.int 1)), none⟩,
     ⟨some 5, .mov (.t 16), none⟩] (some [0, 1, 5])))))))
 (.seq
 (.ops false [
   ⟨some 4, .mov (.k (.bool true)), none⟩] (some [4]))
 .ret))))

theorem m17 : fmatch Tryd.prog Tryd.f17 2 [.tmp 4] v17 = true := by kernel_rfl

/-- steening/steeningref01.In -/
def v19 : VC :=
 (.seq
 (.ops false [
   ⟨some 4, .mov (.k (.bool false)), none⟩] (some [0, 1]))
 (.seq
 (.seq
 (.ops false [
   ⟨some 5, .mov (.k (.int 0)), none⟩] (some [0, 1, 5]))
 (.block 0
  (.loop
   (.seq
   (.seq
   (.ops false [
     ⟨some 6, .mov (.t 5), none⟩,
     ⟨some 7, .mov (.t 0), none⟩,
     ⟨some 8, .len (.t 7), none⟩,
     ⟨some 9, .bin .lss (.t 6) (.t 8), none⟩] (some [0, 1, 5, 9]))
   (.cond (.t 9)
    .skip
    (.exit 0)))
   (.seq
   (.block 1
    (.seq
    (.ops false [
      ⟨some 12, .mov (.t 0), none⟩,
      ⟨some 13, .mov (.t 5), none⟩,
      ⟨some 14, .idx 1 (.t 12) (.t 13), none⟩,
      ⟨some 15, .load 1 false (.t 14) [], none⟩,
      ⟨some 16, .mov (.t 1), none⟩,
      ⟨some 17, .bin .eql (.t 15) (.t 16), none⟩] (some [0, 1, 5, 17]))
    (.cond (.t 17)
     (.seq
     (.ops false [
       ⟨some 4, .mov (.k (.bool true)), none⟩] (some [4]))
     .ret)
     .skip)))
   (.ops false [
     ⟨some 10, .mov (.t 5), none⟩,
     ⟨some 11, .bin .add (.t 10) (.k (.int 1)), none⟩,
     ⟨some 5, .mov (.t 11), none⟩] (some [0, 1, 5])))))))
 (.seq
 (.ops false [
   ⟨some 4, .mov (.k (.bool false)), none⟩] (some [4]))
 .ret)))

theorem m19 : fmatch Tryd.prog Tryd.f19 2 [.tmp 4] v19 = true := by kernel_rfl

/-- steening/steeninglaw03.huge -/
def v20 : VC :=
 (.seq
 (.ops false [
   ⟨some 1, .box 1 3 (.t 0), none⟩,
   ⟨some 2, .mov (.k (.bool false)), none⟩] (some [1]))
 (.seq
 (.ops false [
   ⟨some 3, .fld 0 (.t 1), none⟩,
   ⟨some 4, .load 1 false (.t 3) [], none⟩,
   ⟨some 5, .len (.t 4), none⟩,
   ⟨some 6, .bin .gtr (.t 5) (.k (.int 40)), none⟩,
   ⟨some 7, .mov (.t 6), none⟩,
   ⟨some 8, .fld 1 (.t 1), some (7, false)⟩,
   ⟨some 9, .load 1 false (.t 8) [], some (7, false)⟩,
   ⟨some 10, .len (.t 9), some (7, false)⟩,
   ⟨some 11, .bin .gtr (.t 10) (.k (.int 40)), some (7, false)⟩,
   ⟨some 12, .pick (.t 7) (.k (.bool true)) (.t 11), none⟩,
   ⟨some 13, .mov (.t 12), none⟩,
   ⟨some 14, .fld 2 (.t 1), some (13, false)⟩,
   ⟨some 15, .load 1 false (.t 14) [], some (13, false)⟩,
   ⟨some 16, .len (.t 15), some (13, false)⟩,
   ⟨some 17, .bin .gtr (.t 16) (.k (.int 40)), some (13, false)⟩,
   ⟨some 18, .pick (.t 13) (.k (.bool true)) (.t 17), none⟩,
   ⟨some 2, .mov (.t 18), none⟩] (some [2]))
 .ret))

theorem m20 : fmatch Tryd.prog Tryd.f20 1 [.tmp 2] v20 = true := by kernel_rfl

/-- steening/steeningref03.Valid -/
def v21 : VC :=
 (.seq
 (.ops false [
   ⟨some 1, .box 1 3 (.t 0), none⟩,
   ⟨some 2, .mov (.k (.bool false)), none⟩] (some [1]))
 (.seq
 (.seq
 (.ops false [
   ⟨some 7, .fld 0 (.t 1), none⟩,
   ⟨some 8, .load 1 false (.t 7) [], none⟩,
   ⟨some 9, .len (.t 8), none⟩,
   ⟨some 10, .bin .gtr (.t 9) (.k (.int 6)), none⟩,
   ⟨some 11, .mov (.t 10), none⟩,
   ⟨some 12, .fld 1 (.t 1), some (11, false)⟩,
   ⟨some 13, .load 1 false (.t 12) [], some (11, false)⟩,
   ⟨some 14, .len (.t 13), some (11, false)⟩,
   ⟨some 15, .bin .gtr (.t 14) (.k (.int 5)), some (11, false)⟩,
   ⟨some 16, .pick (.t 11) (.k (.bool true)) (.t 15), none⟩] (some [1, 16]))
 (.cond (.t 16)
  (.seq
  (.ops false [
    ⟨some 2, .mov (.k (.bool false)), none⟩] (some [2]))
  .ret)
  .skip))
 (.seq
 (.seq
 (.ops false [
   ⟨some 3, .mov (.k (.int 0)), none⟩] (some [1, 3]))
 (.block 0
  (.loop
   (.seq
   (.seq
   (.ops false [
     ⟨some 17, .mov (.t 3), none⟩,
     ⟨some 18, .fld 0 (.t 1), none⟩,
     ⟨some 19, .load 1 false (.t 18) [], none⟩,
     ⟨some 20, .len (.t 19), none⟩,
     ⟨some 21, .bin .lss (.t 17) (.t 20), none⟩] (some [1, 3, 21]))
   (.cond (.t 21)
    .skip
    (.exit 0)))
   (.seq
   (.block 1
    (.seq
    (.ops false [
      ⟨some 24, .fld 0 (.t 1), none⟩,
      ⟨some 25, .load 1 false (.t 24) [], none⟩,
      ⟨some 26, .mov (.t 3), none⟩,
      ⟨some 27, .idx 1 (.t 25) (.t 26), none⟩,
      ⟨some 28, .load 1 false (.t 27) [], none⟩,
      ⟨some 29, .call 31 [.t 28, .k (.int 0), .k (.int 9)], none⟩,
      ⟨some 30, .not (.t 29), none⟩] (some [1, 3, 30]))
    (.cond (.t 30)
     (.seq
     (.ops false [
       ⟨some 2, .mov (.k (.bool false)), none⟩] (some [2]))
     .ret)
     .skip)))
   (.ops false [
     ⟨some 22, .mov (.t 3), none⟩,
     ⟨some 23, .bin .add (.t 22) (.k (.int 1)), none⟩,
     ⟨some 3, .mov (.t 23), none⟩] (some [1, 3])))))))
 (.seq
 (.seq
 (.ops false [
   ⟨some 4, .mov (.k (.int 0)), none⟩] (some [1, 4]))
 (.block 2
  (.loop
   (.seq
   (.seq
   (.ops false [
     ⟨some 31, .mov (.t 4), none⟩,
     ⟨some 32, .fld 1 (.t 1), none⟩,
     ⟨some 33, .load 1 false (.t 32) [], none⟩,
     ⟨some 34, .len (.t 33), none⟩,
     ⟨some 35, .bin .lss (.t 31) (.t 34), none⟩] (some [1, 4, 35]))
   (.cond (.t 35)
    .skip
    (.exit 2)))
   (.seq
   (.block 3
    (.seq
    (.ops false [
      ⟨some 38, .fld 1 (.t 1), none⟩,
      ⟨some 39, .load 1 false (.t 38) [], none⟩,
      ⟨some 40, .mov (.t 4), none⟩,
      ⟨some 41, .idx 1 (.t 39) (.t 40), none⟩,
      ⟨some 42, .load 1 false (.t 41) [], none⟩,
      ⟨some 43, .call 31 [.t 42, .k (.int 0), .k (.int 20)], none⟩,
      ⟨some 44, .not (.t 43), none⟩] (some [1, 4, 44]))
    (.cond (.t 44)
     (.seq
     (.ops false [
       ⟨some 2, .mov (.k (.bool false)), none⟩] (some [2]))
     .ret)
     .skip)))
   (.ops false [
     ⟨some 36, .mov (.t 4), none⟩,
     ⟨some 37, .bin .add (.t 36) (.k (.int 1)), none⟩,
     ⟨some 4, .mov (.t 37), none⟩] (some [1, 4])))))))
 (.seq
 (.seq
 (.ops false [
   ⟨some 5, .mov (.k (.int 0)), none⟩] (some [1, 5]))
 (.block 4
  (.loop
   (.seq
   (.seq
   (.ops false [
     ⟨some 45, .mov (.t 5), none⟩,
     ⟨some 46, .fld 2 (.t 1), none⟩,
     ⟨some 47, .load 1 false (.t 46) [], none⟩,
     ⟨some 48, .len (.t 47), none⟩,
     ⟨some 49, .bin .lss (.t 45) (.t 48), none⟩] (some [1, 5, 49]))
   (.cond (.t 49)
    .skip
    (.exit 4)))
   (.seq
   (.block 5
    (.seq
    (.ops false [
      ⟨some 52, .fld 2 (.t 1), none⟩,
      ⟨some 53, .load 1 false (.t 52) [], none⟩,
      ⟨some 54, .mov (.t 5), none⟩,
      ⟨some 55, .idx 2 (.t 53) (.t 54), none⟩,
      ⟨some 56, .load 2 true (.t 55) [], none⟩,
      ⟨some 6, .alloc 6 [.int 0, .int 0], none⟩,
      ⟨none, .store 2 (.t 6) (.t 56) (some 6), none⟩] (some [1, 5, 6]))
    (.seq
    (.ops true [
      ⟨some 57, .load 3 true (.t 1) [], none⟩,
      ⟨some 58, .fld 0 (.t 6), none⟩,
      ⟨some 59, .load 1 false (.t 58) [], none⟩,
      ⟨some 60, .call 38 [.t 57, .t 59], none⟩,
      ⟨some 61, .not (.t 60), none⟩,
      ⟨some 62, .mov (.t 61), none⟩,
      ⟨some 63, .load 3 true (.t 1) [], some (62, false)⟩,
      ⟨some 64, .fld 1 (.t 6), some (62, false)⟩,
      ⟨some 65, .load 1 false (.t 64) [], some (62, false)⟩,
      ⟨some 66, .call 13 [.t 63, .t 65], some (62, false)⟩,
      ⟨some 67, .not (.t 66), some (62, false)⟩,
      ⟨some 68, .pick (.t 62) (.k (.bool true)) (.t 67), none⟩,
      ⟨some 69, .mov (.t 68), none⟩,
      ⟨some 70, .mov (.t 5), some (69, false)⟩,
      ⟨some 71, .bin .gtr (.t 70) (.k (.int 0)), some (69, false)⟩,
      ⟨some 72, .mov (.t 71), some (69, false)⟩,
      ⟨some 73, .fld 2 (.t 1), some (72, true)⟩,
      ⟨some 74, .load 1 false (.t 73) [], some (72, true)⟩,
      ⟨some 75, .mov (.t 5), some (72, true)⟩,
      ⟨some 76, .bin .sub (.t 75) (.k (.int 1)), some (72, true)⟩,
      ⟨some 77, .idx 2 (.t 74) (.t 76), some (72, true)⟩,
      ⟨some 78, .load 2 true (.t 77) [], some (72, true)⟩,
      ⟨some 79, .load 2 true (.t 6) [], some (72, true)⟩,
      ⟨some 80, .call 39 [.t 78, .t 79], some (72, true)⟩,
      ⟨some 81, .not (.t 80), some (72, true)⟩,
      ⟨some 82, .pick (.t 72) (.t 81) (.k (.bool false)), some (69, false)⟩,
      ⟨some 83, .pick (.t 69) (.k (.bool true)) (.t 82), none⟩] (some [1, 5, 83]))
    (.cond (.t 83)
     (.seq
     (.ops false [
       ⟨some 2, .mov (.k (.bool false)), none⟩] (some [2]))
     .ret)
     .skip))))
   (.ops false [
     ⟨some 50, .mov (.t 5), none⟩,
     ⟨some 51, .bin .add (.t 50) (.k (.int 1)), none⟩,
     ⟨some 5, .mov (.t 51), none⟩] (some [1, 5])))))))
 (.seq
 (.ops false [
   ⟨some 2, .mov (.k (.bool true)), none⟩] (some [2]))
 .ret))))))

theorem m21 : fmatch Tryd.prog Tryd.f21 1 [.tmp 2] v21 = true := by kernel_rfl

/-- steening/steeningref07.within -/
def v22 : VC :=
 (.seq
 (.ops false [
   ⟨some 6, .mov (.k (.bool false)), none⟩] (some [0, 1, 2]))
 (.seq
 (.ops false [
   ⟨some 7, .mov (.t 0), none⟩,
   ⟨some 8, .mov (.t 1), none⟩,
   ⟨some 9, .mov (.t 2), none⟩,
   ⟨some 10, .call 8 [.t 7, .t 8, .t 9], none⟩,
   ⟨some 6, .mov (.t 10), none⟩] (some [6]))
 .ret))

theorem m22 : fmatch Tryd.prog Tryd.f22 3 [.tmp 6] v22 = true := by kernel_rfl

/-- steening/steeninglaw03.Example -/
def v23 : VC :=
 (.seq
 (.ops false [
   ⟨some 0, .alloc 0 [.sl 1 [] .full, .sl 1 [] .full, .sl 2 [] .full], none⟩,
   ⟨some 1, .alloc 1 [.sl 1 [] .full, .sl 1 [] .full, .sl 2 [] .full], none⟩,
   ⟨some 2, .alloc 2 [.sl 1 [] .full, .sl 1 [] .full, .sl 2 [] .full], none⟩] (some [0, 1, 2]))
 (.seq
 (.ops false [
   ⟨some 3, .bslice 1 [.k (.int 5), .k (.int 4), .k (.int 3)], none⟩,
   ⟨some 4, .bslice 1 [.k (.int 4), .k (.int 3)], none⟩,
   ⟨some 5, .build [.int 0, .int 0] [(0, 1, .k (.int 0)), (1, 1, .k (.int 0))], none⟩,
   ⟨some 6, .build [.int 0, .int 0] [(0, 1, .k (.int 1)), (1, 1, .k (.int 0))], none⟩,
   ⟨some 7, .build [.int 0, .int 0] [(0, 1, .k (.int 1)), (1, 1, .k (.int 1))], none⟩,
   ⟨some 8, .build [.int 0, .int 0] [(0, 1, .k (.int 2)), (1, 1, .k (.int 1))], none⟩,
   ⟨some 9, .bslice 2 [.t 5, .t 6, .t 7, .t 8], none⟩,
   ⟨some 10, .build [.sl 1 [] .sh, .sl 1 [] .sh, .sl 2 [] .sh] [(0, 1, .t 3), (1, 1, .t 4), (2, 1, .t 9)], none⟩,
   ⟨none, .store 3 (.t 0) (.t 10) (some 0), none⟩] (some [0, 1, 2]))
 (.seq
 (.ops false [
   ⟨some 11, .bslice 1 [.k (.int 2), .k (.int 3)], none⟩,
   ⟨some 12, .bslice 1 [.k (.int 5), .k (.int 0)], none⟩,
   ⟨some 13, .build [.int 0, .int 0] [(0, 1, .k (.int 0)), (1, 1, .k (.int 0))], none⟩,
   ⟨some 14, .build [.int 0, .int 0] [(0, 1, .k (.int 1)), (1, 1, .k (.int 1))], none⟩,
   ⟨some 15, .bslice 2 [.t 13, .t 14], none⟩,
   ⟨some 16, .build [.sl 1 [] .sh, .sl 1 [] .sh, .sl 2 [] .sh] [(0, 1, .t 11), (1, 1, .t 12), (2, 1, .t 15)], none⟩,
   ⟨none, .store 3 (.t 1) (.t 16) (some 1), none⟩] (some [0, 1, 2]))
 (.seq
 (.ops false [
   ⟨some 17, .bslice 1 [.k (.int 1)], none⟩,
   ⟨some 18, .bslice 1 [.k (.int 1), .k (.int 1)], none⟩,
   ⟨some 19, .build [.int 0, .int 0] [(0, 1, .k (.int 0)), (1, 1, .k (.int 0))], none⟩,
   ⟨some 20, .build [.int 0, .int 0] [(0, 1, .k (.int 0)), (1, 1, .k (.int 1))], none⟩,
   ⟨some 21, .bslice 2 [.t 19, .t 20], none⟩,
   ⟨some 22, .build [.sl 1 [] .sh, .sl 1 [] .sh, .sl 2 [] .sh] [(0, 1, .t 17), (1, 1, .t 18), (2, 1, .t 21)], none⟩,
   ⟨none, .store 3 (.t 2) (.t 22) (some 2), none⟩] (some [0, 1, 2]))
 (.seq
 (.ops true [
   ⟨some 23, .load 3 true (.t 0) [1, 2], none⟩,
   ⟨some 24, .load 3 true (.t 1) [0, 2], none⟩,
   ⟨some 25, .load 3 true (.t 2) [0, 1], none⟩,
   ⟨none, .store 3 (.t 0) (.t 23) (some 0), none⟩,
   ⟨none, .store 3 (.t 1) (.t 24) (some 1), none⟩,
   ⟨none, .store 3 (.t 2) (.t 25) (some 2), none⟩] (some [0, 1, 2]))
 .ret)))))

theorem m23 : fmatch Tryd.prog Tryd.f23 0 [.cell 0 25, .cell 1 25, .cell 2 25] v23 = true := by kernel_rfl

/-- steening/steeninglaw07.Example -/
def v24 : VC :=
 (.seq
 (.ops false [
   ⟨some 0, .alloc 0 [.sl 1 [] .full, .sl 1 [] .full], none⟩,
   ⟨some 1, .alloc 1 [.sl 1 [] .full, .sl 1 [] .full], none⟩] (some [0, 1]))
 (.seq
 (.ops false [
   ⟨some 2, .bslice 1 [.k (.int 5), .k (.int 3), .k (.int 1)], none⟩,
   ⟨some 3, .bslice 1 [.k (.int 9), .k (.int 9), .k (.int 9)], none⟩,
   ⟨some 4, .build [.sl 1 [] .sh, .sl 1 [] .sh] [(0, 1, .t 2), (1, 1, .t 3)], none⟩,
   ⟨some 5, .bslice 1 [.k (.int 5), .k (.int 3), .k (.int 1)], none⟩,
   ⟨some 6, .bslice 1 [.k (.int 2), .k (.int 1), .k (.int 0)], none⟩,
   ⟨some 7, .build [.sl 1 [] .sh, .sl 1 [] .sh] [(0, 1, .t 5), (1, 1, .t 6)], none⟩,
   ⟨none, .store 2 (.t 0) (.t 4) (some 0), none⟩,
   ⟨none, .store 2 (.t 1) (.t 7) (some 1), none⟩] (some [0, 1]))
 .ret))

theorem m24 : fmatch Tryd.prog Tryd.f24 0 [.cell 0 27, .cell 1 27] v24 = true := by kernel_rfl

/-- steening/mouths.Gauges -/
def v25 : VC :=
 (.seq
 (.ops false [
   ⟨some 2, .box 2 2 (.t 0), none⟩,
   ⟨some 4, .nils 4 1, none⟩,
   ⟨some 5, .mov (.k (.int 0)), none⟩] (some [1, 2]))
 (.seq
 (.seq
 (.ops true [
   ⟨some 7, .load 2 true (.t 2) [], none⟩,
   ⟨some 8, .mov (.t 1), none⟩,
   ⟨some 9, .call 40 [.t 8], none⟩,
   ⟨some 10, .call 28 [.t 7, .t 9], none⟩,
   ⟨some 6, .mov (.t 10), none⟩] (some [1, 2, 6]))
 (.seq
 (.ops false [
   ⟨some 11, .mov (.t 6), none⟩,
   ⟨some 12, .bin .neq (.t 11) (.k (.int 0)), none⟩] (some [1, 2, 6, 12]))
 (.cond (.t 12)
  (.seq
  (.ops false [
    ⟨some 13, .mov (.t 6), none⟩,
    ⟨some 4, .nils 501 1, none⟩,
    ⟨some 5, .mov (.t 13), none⟩] (some [4, 5]))
  .ret)
  .skip)))
 (.seq
 (.ops false [
   ⟨some 14, .load 2 true (.t 2) [], none⟩,
   ⟨some 15, .mov (.t 1), none⟩,
   ⟨some 16, .call 41 [.t 14, .t 15], none⟩,
   ⟨some 4, .mov (.t 16), none⟩,
   ⟨some 5, .mov (.k (.int 0)), none⟩] (some [4, 5]))
 .ret)))

theorem m25 : fmatch Tryd.prog Tryd.f25 2 [.tmp 4, .tmp 5] v25 = true := by kernel_rfl

/-- steening/mouths.sum -/
def v27 : VC :=
 (.seq
 (.ops false [
   ⟨some 2, .mov (.k (.int 0)), none⟩] (some [0]))
 (.seq
 (.ops false [
   ⟨some 3, .mov (.k (.int 0)), none⟩] (some [0, 3]))
 (.seq
 (.seq
 (.ops false [
   ⟨some 6, .mov (.t 0), none⟩,
   ⟨some 7, .len (.t 6), none⟩,
   ⟨some 8, .mov (.k (.int 0)), none⟩] (some [3, 6, 7, 8]))
 (.block 0
  (.loop
   (.seq
   (.ops false [
     ⟨some 9, .bin .lss (.t 8) (.t 7), none⟩] (some [3, 6, 7, 8, 9]))
   (.seq
   (.cond (.t 9)
    .skip
    (.exit 0))
   (.seq
   (.block 1
    (.seq
    (.ops false [
      ⟨some 10, .idx 1 (.t 6) (.t 8), none⟩,
      ⟨some 11, .load 1 false (.t 10) [], none⟩,
      ⟨some 5, .mov (.t 11), none⟩] (some [3, 5, 6, 7, 8]))
    (.ops false [
      ⟨some 12, .mov (.t 3), none⟩,
      ⟨some 13, .mov (.t 5), none⟩,
      ⟨some 14, .bin .add (.t 12) (.t 13), none⟩,
      ⟨some 3, .mov (.t 14), none⟩] (some [3, 6, 7, 8]))))
   (.ops false [
     ⟨some 15, .bin .add (.t 8) (.k (.int 1)), none⟩,
     ⟨some 8, .mov (.t 15), none⟩] (some [3, 6, 7, 8]))))))))
 (.seq
 (.ops false [
   ⟨some 16, .mov (.t 3), none⟩,
   ⟨some 2, .mov (.t 16), none⟩] (some [2]))
 .ret))))

theorem m27 : fmatch Tryd.prog Tryd.f27 1 [.tmp 2] v27 = true := by kernel_rfl

/-- steening/mouths.ask -/
def v28 : VC :=
 (.seq
 (.ops false [
   ⟨some 2, .box 2 2 (.t 0), none⟩,
   ⟨some 4, .mov (.k (.int 0)), none⟩] (some [1, 2]))
 (.seq
 (.seq
 (.ops false [
   ⟨some 6, .load 2 true (.t 2) [], none⟩,
   ⟨some 7, .call 42 [.t 6], none⟩,
   ⟨some 5, .mov (.t 7), none⟩] (some [1, 5]))
 (.seq
 (.ops false [
   ⟨some 8, .mov (.t 5), none⟩,
   ⟨some 9, .bin .neq (.t 8) (.k (.int 0)), none⟩] (some [1, 5, 9]))
 (.cond (.t 9)
  (.seq
  (.ops false [
    ⟨some 10, .mov (.t 5), none⟩,
    ⟨some 4, .mov (.t 10), none⟩] (some [4]))
  .ret)
  .skip)))
 (.seq
 (.seq
 (.ops false [
   ⟨some 11, .mov (.t 1), none⟩,
   ⟨some 12, .not (.t 11), none⟩] (some [12]))
 (.cond (.t 12)
  (.seq
  (.ops false [
    ⟨some 4, .mov (.k (.int 1)), none⟩] (some [4]))
  .ret)
  .skip))
 (.seq
 (.ops false [
   ⟨some 4, .mov (.k (.int 0)), none⟩] (some [4]))
 .ret))))

theorem m28 : fmatch Tryd.prog Tryd.f28 2 [.tmp 4] v28 = true := by kernel_rfl

/-- steening/mouths.within -/
def v29 : VC :=
 (.seq
 (.ops false [
   ⟨some 6, .mov (.k (.bool false)), none⟩] (some [0, 1, 2]))
 (.seq
 (.ops false [
   ⟨some 7, .mov (.t 1), none⟩,
   ⟨some 8, .mov (.t 0), none⟩,
   ⟨some 9, .bin .leq (.t 7) (.t 8), none⟩,
   ⟨some 10, .mov (.t 9), none⟩,
   ⟨some 11, .mov (.t 0), some (10, true)⟩,
   ⟨some 12, .mov (.t 2), some (10, true)⟩,
   ⟨some 13, .bin .leq (.t 11) (.t 12), some (10, true)⟩,
   ⟨some 14, .pick (.t 10) (.t 13) (.k (.bool false)), none⟩,
   ⟨some 6, .mov (.t 14), none⟩] (some [6]))
 .ret))

theorem m29 : fmatch Tryd.prog Tryd.f29 3 [.tmp 6] v29 = true := by kernel_rfl

/-- (steening/mouths.gate).turns -/
def v30 : VC :=
 (.seq
 (.ops false [
   ⟨some 2, .box 1002 7 (.t 0), none⟩] (some [1, 2]))
 (.seq
 (.ops false [
   ⟨some 4, .mov (.k (.int 0)), none⟩] (some [1, 2, 4]))
 (.block 0
  (.loop
   (.seq
   (.block 1
    (.seq
    (.ops false [
      ⟨some 8, .callb 43 [.t 2] [], none⟩,
      ⟨some 5, .mov (.t 8), none⟩] (some [1, 2, 4, 5]))
    (.seq
    (.seq
    (.ops false [
      ⟨some 9, .mov (.t 1), none⟩,
      ⟨some 10, .mov (.t 4), none⟩,
      ⟨some 11, .mov (.t 5), none⟩,
      ⟨some 12, .yield (.t 9) [.t 10, .t 11], none⟩,
      ⟨some 13, .not (.t 12), none⟩] (some [1, 2, 4, 5, 13]))
    (.cond (.t 13)
     .ret
     .skip))
    (.seq
    (.ops false [
      ⟨some 14, .mov (.t 5), none⟩,
      ⟨some 15, .bin .geq (.t 14) (.k (.int 0)), none⟩] (some [1, 2, 4, 5, 15]))
    (.cond (.t 15)
     (.ops false [
       ⟨some 16, .mov (.t 5), none⟩,
       ⟨some 17, .fld 2 (.t 2), none⟩,
       ⟨some 18, .idxA 5 1 (.t 17) (.t 16), none⟩,
       ⟨some 19, .load 1 false (.t 18) [], none⟩,
       ⟨some 20, .bin .add (.t 19) (.k (.int 1)), none⟩,
       ⟨some 21, .fld 2 (.t 2), none⟩,
       ⟨some 22, .idxA 5 1 (.t 21) (.t 16), none⟩,
       ⟨none, .store 1 (.t 22) (.t 20) (some 1002), none⟩] (some [1, 2, 4]))
     .skip)))))
   (.ops false [
     ⟨some 6, .mov (.t 4), none⟩,
     ⟨some 7, .bin .add (.t 6) (.k (.int 1)), none⟩,
     ⟨some 4, .mov (.t 7), none⟩] (some [1, 2, 4])))))))

theorem m30 : fmatch Tryd.prog Tryd.f30 2 [] v30 = true := by kernel_rfl

/-- steening/steeningref03.within -/
def v31 : VC :=
 (.seq
 (.ops false [
   ⟨some 6, .mov (.k (.bool false)), none⟩] (some [0, 1, 2]))
 (.seq
 (.ops false [
   ⟨some 7, .mov (.t 0), none⟩,
   ⟨some 8, .mov (.t 1), none⟩,
   ⟨some 9, .mov (.t 2), none⟩,
   ⟨some 10, .call 8 [.t 7, .t 8, .t 9], none⟩,
   ⟨some 6, .mov (.t 10), none⟩] (some [6]))
 .ret))

theorem m31 : fmatch Tryd.prog Tryd.f31 3 [.tmp 6] v31 = true := by kernel_rfl

/-- steening/buckets.Check -/
def v32 : VC :=
 (.seq
 (.ops false [
   ⟨some 1, .box 1 3 (.t 0), none⟩,
   ⟨some 2, .mov (.k (.int 0)), none⟩] (some [1]))
 (.seq
 (.seq
 (.ops false [
   ⟨some 5, .fld 0 (.t 1), none⟩,
   ⟨some 6, .load 1 false (.t 5) [], none⟩,
   ⟨some 7, .len (.t 6), none⟩,
   ⟨some 8, .bin .gtr (.t 7) (.k (.int 6)), none⟩,
   ⟨some 9, .mov (.t 8), none⟩,
   ⟨some 10, .fld 1 (.t 1), some (9, false)⟩,
   ⟨some 11, .load 1 false (.t 10) [], some (9, false)⟩,
   ⟨some 12, .len (.t 11), some (9, false)⟩,
   ⟨some 13, .bin .gtr (.t 12) (.k (.int 5)), some (9, false)⟩,
   ⟨some 14, .pick (.t 9) (.k (.bool true)) (.t 13), none⟩,
   ⟨some 15, .mov (.t 14), none⟩,
   ⟨some 16, .fld 2 (.t 1), some (15, false)⟩,
   ⟨some 17, .load 1 false (.t 16) [], some (15, false)⟩,
   ⟨some 18, .len (.t 17), some (15, false)⟩,
   ⟨some 19, .bin .gtr (.t 18) (.k (.int 12)), some (15, false)⟩,
   ⟨some 20, .pick (.t 15) (.k (.bool true)) (.t 19), none⟩] (some [1, 20]))
 (.cond (.t 20)
  (.seq
  (.ops false [
    ⟨some 2, .mov (.k (.int 30)), none⟩] (some [2]))
  .ret)
  .skip))
 (.seq
 (.seq
 (.ops false [
   ⟨some 21, .fld 0 (.t 1), none⟩,
   ⟨some 22, .load 1 false (.t 21) [], none⟩,
   ⟨some 23, .call 44 [.t 22, .k (.clo 45 [] [])], none⟩,
   ⟨some 24, .mov (.t 23), none⟩,
   ⟨some 25, .fld 1 (.t 1), some (24, false)⟩,
   ⟨some 26, .load 1 false (.t 25) [], some (24, false)⟩,
   ⟨some 27, .call 44 [.t 26, .k (.clo 47 [] [])], some (24, false)⟩,
   ⟨some 28, .pick (.t 24) (.k (.bool true)) (.t 27), none⟩] (some [1, 28]))
 (.cond (.t 28)
  (.seq
  (.ops false [
    ⟨some 2, .mov (.k (.int 30)), none⟩] (some [2]))
  .ret)
  .skip))
 (.seq
 (.seq
 (.ops false [
   ⟨some 29, .fld 2 (.t 1), none⟩,
   ⟨some 30, .load 1 false (.t 29) [], none⟩,
   ⟨some 31, .len (.t 30), none⟩,
   ⟨some 32, .mov (.k (.int 0)), none⟩] (some [1, 30, 31, 32]))
 (.block 0
  (.loop
   (.seq
   (.ops false [
     ⟨some 33, .bin .lss (.t 32) (.t 31), none⟩] (some [1, 30, 31, 32, 33]))
   (.seq
   (.cond (.t 33)
    .skip
    (.exit 0))
   (.seq
   (.block 1
    (.seq
    (.ops false [
      ⟨some 34, .mov (.t 32), none⟩,
      ⟨some 35, .idx 2 (.t 30) (.t 32), none⟩,
      ⟨some 36, .load 2 true (.t 35) [], none⟩,
      ⟨some 4, .alloc 4 [.int 0, .int 0], none⟩,
      ⟨some 3, .mov (.t 34), none⟩,
      ⟨none, .store 2 (.t 4) (.t 36) (some 4), none⟩] (some [1, 3, 4, 30, 31, 32]))
    (.seq
    (.ops true [
      ⟨some 37, .load 3 true (.t 1) [], none⟩,
      ⟨some 38, .fld 0 (.t 4), none⟩,
      ⟨some 39, .load 1 false (.t 38) [], none⟩,
      ⟨some 40, .call 48 [.t 37, .t 39], none⟩,
      ⟨some 41, .not (.t 40), none⟩,
      ⟨some 42, .mov (.t 41), none⟩,
      ⟨some 43, .load 3 true (.t 1) [], some (42, false)⟩,
      ⟨some 44, .fld 1 (.t 4), some (42, false)⟩,
      ⟨some 45, .load 1 false (.t 44) [], some (42, false)⟩,
      ⟨some 46, .call 49 [.t 43, .t 45], some (42, false)⟩,
      ⟨some 47, .not (.t 46), some (42, false)⟩,
      ⟨some 48, .pick (.t 42) (.k (.bool true)) (.t 47), none⟩,
      ⟨some 49, .mov (.t 48), none⟩,
      ⟨some 50, .mov (.t 3), some (49, false)⟩,
      ⟨some 51, .bin .gtr (.t 50) (.k (.int 0)), some (49, false)⟩,
      ⟨some 52, .mov (.t 51), some (49, false)⟩,
      ⟨some 53, .fld 2 (.t 1), some (52, true)⟩,
      ⟨some 54, .load 1 false (.t 53) [], some (52, true)⟩,
      ⟨some 55, .mov (.t 3), some (52, true)⟩,
      ⟨some 56, .bin .sub (.t 55) (.k (.int 1)), some (52, true)⟩,
      ⟨some 57, .idx 2 (.t 54) (.t 56), some (52, true)⟩,
      ⟨some 58, .load 2 true (.t 57) [], some (52, true)⟩,
      ⟨some 59, .load 2 true (.t 4) [], some (52, true)⟩,
      ⟨some 60, .call 50 [.t 58, .t 59], some (52, true)⟩,
      ⟨some 61, .bin .geq (.t 60) (.k (.int 0)), some (52, true)⟩,
      ⟨some 62, .pick (.t 52) (.t 61) (.k (.bool false)), some (49, false)⟩,
      ⟨some 63, .pick (.t 49) (.k (.bool true)) (.t 62), none⟩] (some [1, 30, 31, 32, 63]))
    (.cond (.t 63)
     (.seq
     (.ops false [
       ⟨some 2, .mov (.k (.int 30)), none⟩] (some [2]))
     .ret)
     .skip))))
   (.ops false [
     ⟨some 64, .bin .add (.t 32) (.k (.int 1)), none⟩,
     ⟨some 32, .mov (.t 64), none⟩] (some [1, 30, 31, 32]))))))))
 (.seq
 (.ops false [
   ⟨some 2, .mov (.k (.int 0)), none⟩] (some [2]))
 .ret)))))

theorem m32 : fmatch Tryd.prog Tryd.f32 1 [.tmp 2] v32 = true := by kernel_rfl

/-- steening/buckets.lacks -/
def v33 : VC :=
 (.seq
 (.ops false [
   ⟨some 1, .box 1 3 (.t 0), none⟩,
   ⟨some 2, .nils 2 1, none⟩] (some [1]))
 (.seq
 (.opsB [
   ⟨some 6, .load 3 true (.t 1) [], none⟩,
   ⟨some 7, .load 3 true (.t 1) [], none⟩,
   ⟨some 8, .load 3 true (.k (.ref 3 [.agg [.int (-1), .int (-1), .int 0]] 0 0)) [], none⟩,
   ⟨some 9, .call 35 [.t 7, .t 8], none⟩]
   ⟨some 10, .calli 51 [.t 6, .t 9], none⟩
   [
   ⟨some 5, .mov (.t 10), none⟩,
   ⟨some 11, .ext (.t 5) 0, none⟩,
   ⟨some 12, .ext (.t 5) 1, none⟩,
   ⟨some 3, .mov (.t 11), none⟩,
   ⟨some 4, .mov (.t 12), none⟩] (some [3]))
 (.seq
 (.ops false [
   ⟨some 13, .mov (.t 3), none⟩,
   ⟨some 14, .calli 52 [.t 13], none⟩,
   ⟨some 2, .mov (.t 14), none⟩] (some [2]))
 .ret)))

theorem m33 : fmatch Tryd.prog Tryd.f33 1 [.tmp 2] v33 = true := by kernel_rfl

/-- steening/buckets.sum -/
def v34 : VC :=
 (.seq
 (.ops false [
   ⟨some 2, .mov (.k (.int 0)), none⟩] (some [0]))
 (.seq
 (.ops false [
   ⟨some 3, .mov (.k (.int 0)), none⟩] (some [0, 3]))
 (.seq
 (.seq
 (.ops false [
   ⟨some 6, .mov (.t 0), none⟩,
   ⟨some 7, .len (.t 6), none⟩,
   ⟨some 8, .mov (.k (.int 0)), none⟩] (some [3, 6, 7, 8]))
 (.block 0
  (.loop
   (.seq
   (.ops false [
     ⟨some 9, .bin .lss (.t 8) (.t 7), none⟩] (some [3, 6, 7, 8, 9]))
   (.seq
   (.cond (.t 9)
    .skip
    (.exit 0))
   (.seq
   (.block 1
    (.seq
    (.ops false [
      ⟨some 10, .idx 1 (.t 6) (.t 8), none⟩,
      ⟨some 11, .load 1 false (.t 10) [], none⟩,
      ⟨some 5, .mov (.t 11), none⟩] (some [3, 5, 6, 7, 8]))
    (.ops false [
      ⟨some 12, .mov (.t 3), none⟩,
      ⟨some 13, .mov (.t 5), none⟩,
      ⟨some 14, .bin .add (.t 12) (.t 13), none⟩,
      ⟨some 3, .mov (.t 14), none⟩] (some [3, 6, 7, 8]))))
   (.ops false [
     ⟨some 15, .bin .add (.t 8) (.k (.int 1)), none⟩,
     ⟨some 8, .mov (.t 15), none⟩] (some [3, 6, 7, 8]))))))))
 (.seq
 (.ops false [
   ⟨some 16, .mov (.t 3), none⟩,
   ⟨some 2, .mov (.t 16), none⟩] (some [2]))
 .ret))))

theorem m34 : fmatch Tryd.prog Tryd.f34 1 [.tmp 2] v34 = true := by kernel_rfl

/-- steening/buckets.fair -/
def v35 : VC :=
 (.seq
 (.ops false [
   ⟨some 2, .box 2 3 (.t 0), none⟩,
   ⟨some 3, .box 3 3 (.t 1), none⟩,
   ⟨some 4, .nils 4 1, none⟩] (some [2, 3]))
 (.seq
 (.ops true [
   ⟨some 10, .load 3 true (.t 2) [15, 17], none⟩,
   ⟨some 11, .load 3 true (.t 3) [15, 17], none⟩,
   ⟨some 12, .fld 2 (.t 2), none⟩,
   ⟨some 13, .load 1 false (.t 12) [15, 17], none⟩,
   ⟨some 14, .len (.t 13), none⟩,
   ⟨some 15, .makes 15 1 8 false [.int 0] (.t 14), none⟩,
   ⟨some 16, .buildW [.sl 1 [] .sh, .sl 1 [] .sh, .sl 2 [] .sh, .int 0, .int 0, .int 0, .sl 1 [] .sh] [(0, 3, .t 10), (3, 3, .t 11), (6, 1, .t 15)], none⟩,
   ⟨some 17, .box 17 7 (.t 16), none⟩,
   ⟨some 5, .mov (.t 17), none⟩] (some [5]))
 (.block 0
  (.loop
   (.block 1
    (.seq
    (.ops false [
      ⟨some 19, .mov (.t 5), none⟩,
      ⟨some 20, .callL 53 [.t 19] [15, 17], none⟩,
      ⟨some 18, .mov (.t 20), none⟩,
      ⟨some 21, .ext (.t 18) 0, none⟩,
      ⟨some 22, .ext (.t 18) 1, none⟩,
      ⟨some 6, .mov (.t 21), none⟩,
      ⟨some 7, .mov (.t 22), none⟩] (some [5, 6, 7]))
    (.seq
    (.seq
    (.ops false [
      ⟨some 23, .mov (.t 7), none⟩,
      ⟨some 24, .bin .geq (.t 23) (.k (.int 0)), none⟩] (some [5, 6, 24]))
    (.cond (.t 24)
     (.seq
     (.ops false [
       ⟨some 25, .mov (.t 5), none⟩,
       ⟨some 26, .nilck (.t 25), none⟩,
       ⟨some 27, .fld 6 (.t 26), none⟩,
       ⟨some 28, .load 1 false (.t 27) [], none⟩,
       ⟨some 4, .mov (.t 28), none⟩] (some [4]))
     .ret)
     .skip))
    (.seq
    (.ops false [
      ⟨some 29, .mov (.t 6), none⟩,
      ⟨some 30, .len (.t 29), none⟩,
      ⟨some 31, .mov (.k (.int 0)), none⟩] (some [5, 29, 30, 31]))
    (.block 2
     (.loop
      (.seq
      (.ops false [
        ⟨some 32, .bin .lss (.t 31) (.t 30), none⟩] (some [5, 29, 30, 31, 32]))
      (.seq
      (.cond (.t 32)
       .skip
       (.exit 2))
      (.seq
      (.block 3
       (.seq
       (.ops false [
         ⟨some 33, .idx 5 (.t 29) (.t 31), none⟩,
         ⟨some 34, .load 5 true (.t 33) [], none⟩,
         ⟨some 9, .alloc 9 [.int 0, .int 0, .int 0, .int 0, .int 0], none⟩,
         ⟨none, .store 5 (.t 9) (.t 34) (some 9), none⟩] (some [5, 9, 29, 30, 31]))
       (.seq
       (.ops false [
         ⟨some 35, .fld 3 (.t 9), none⟩,
         ⟨some 36, .load 1 false (.t 35) [], none⟩,
         ⟨some 37, .bin .geq (.t 36) (.k (.int 0)), none⟩] (some [5, 9, 29, 30, 31, 37]))
       (.cond (.t 37)
        (.ops true [
          ⟨some 38, .mov (.t 5), none⟩,
          ⟨some 39, .nilck (.t 38), none⟩,
          ⟨some 40, .fld 6 (.t 39), none⟩,
          ⟨some 41, .load 1 false (.t 40) [], none⟩,
          ⟨some 42, .fld 3 (.t 9), none⟩,
          ⟨some 43, .load 1 false (.t 42) [], none⟩,
          ⟨some 44, .idx 1 (.t 41) (.t 43), none⟩,
          ⟨some 45, .load 1 false (.t 44) [], none⟩,
          ⟨some 46, .fld 4 (.t 9), none⟩,
          ⟨some 47, .load 1 false (.t 46) [], none⟩,
          ⟨some 48, .bin .add (.t 45) (.t 47), none⟩,
          ⟨some 49, .idx 1 (.t 41) (.t 43), none⟩,
          ⟨none, .store 1 (.t 49) (.t 48) none, none⟩] (some [5, 29, 30, 31]))
        .skip))))
      (.ops false [
        ⟨some 50, .bin .add (.t 31) (.k (.int 1)), none⟩,
        ⟨some 31, .mov (.t 50), none⟩] (some [5, 29, 30, 31])))))))))))))))

theorem m35 : fmatch Tryd.prog Tryd.f35 2 [.tmp 4] v35 = true := by kernel_rfl

/-- steening/buckets.fairer -/
def v37 : VC :=
 (.seq
 (.ops false [
   ⟨some 2, .box 2 3 (.t 0), none⟩,
   ⟨some 3, .box 3 3 (.t 1), none⟩,
   ⟨some 4, .mov (.k (.bool false)), none⟩] (some [2, 3]))
 (.seq
 (.ops true [
   ⟨some 5, .load 3 true (.t 2) [], none⟩,
   ⟨some 6, .call 33 [.t 5], none⟩,
   ⟨some 7, .load 3 true (.t 3) [], none⟩,
   ⟨some 8, .call 33 [.t 7], none⟩,
   ⟨some 9, .call 54 [.t 6, .t 8], none⟩,
   ⟨some 10, .bin .lss (.t 9) (.k (.int 0)), none⟩,
   ⟨some 4, .mov (.t 10), none⟩] (some [4]))
 .ret))

theorem m37 : fmatch Tryd.prog Tryd.f37 2 [.tmp 4] v37 = true := by kernel_rfl

/-- steening/steeningref03.IsHouse -/
def v38 : VC :=
 (.seq
 (.ops false [
   ⟨some 2, .box 2 3 (.t 0), none⟩,
   ⟨some 4, .mov (.k (.bool false)), none⟩] (some [1, 2]))
 (.seq
 (.ops false [
   ⟨some 5, .mov (.t 1), none⟩,
   ⟨some 6, .fld 0 (.t 2), none⟩,
   ⟨some 7, .load 1 false (.t 6) [], none⟩,
   ⟨some 8, .len (.t 7), none⟩,
   ⟨some 9, .bin .sub (.t 8) (.k (.int 1)), none⟩,
   ⟨some 10, .call 31 [.t 5, .k (.int 0), .t 9], none⟩,
   ⟨some 4, .mov (.t 10), none⟩] (some [4]))
 .ret))

theorem m38 : fmatch Tryd.prog Tryd.f38 2 [.tmp 4] v38 = true := by kernel_rfl

/-- steening/steeningref03.Before -/
def v39 : VC :=
 (.seq
 (.ops false [
   ⟨some 2, .box 2 2 (.t 0), none⟩,
   ⟨some 3, .box 3 2 (.t 1), none⟩,
   ⟨some 4, .mov (.k (.bool false)), none⟩] (some [2, 3]))
 (.seq
 (.ops false [
   ⟨some 5, .fld 0 (.t 2), none⟩,
   ⟨some 6, .load 1 false (.t 5) [], none⟩,
   ⟨some 7, .fld 0 (.t 3), none⟩,
   ⟨some 8, .load 1 false (.t 7) [], none⟩,
   ⟨some 9, .bin .lss (.t 6) (.t 8), none⟩,
   ⟨some 10, .mov (.t 9), none⟩,
   ⟨some 11, .fld 0 (.t 2), some (10, false)⟩,
   ⟨some 12, .load 1 false (.t 11) [], some (10, false)⟩,
   ⟨some 13, .fld 0 (.t 3), some (10, false)⟩,
   ⟨some 14, .load 1 false (.t 13) [], some (10, false)⟩,
   ⟨some 15, .bin .eql (.t 12) (.t 14), some (10, false)⟩,
   ⟨some 16, .mov (.t 15), some (10, false)⟩,
   ⟨some 17, .fld 1 (.t 2), some (16, true)⟩,
   ⟨some 18, .load 1 false (.t 17) [], some (16, true)⟩,
   ⟨some 19, .fld 1 (.t 3), some (16, true)⟩,
   ⟨some 20, .load 1 false (.t 19) [], some (16, true)⟩,
   ⟨some 21, .bin .lss (.t 18) (.t 20), some (16, true)⟩,
   ⟨some 22, .pick (.t 16) (.t 21) (.k (.bool false)), some (10, false)⟩,
   ⟨some 23, .pick (.t 10) (.k (.bool true)) (.t 22), none⟩,
   ⟨some 4, .mov (.t 23), none⟩] (some [4]))
 .ret))

theorem m39 : fmatch Tryd.prog Tryd.f39 2 [.tmp 4] v39 = true := by kernel_rfl

/-- steening/mouths.isFlow -/
def v40 : VC :=
 (.seq
 (.ops false [
   ⟨some 2, .mov (.k (.bool false)), none⟩] (some [0]))
 (.seq
 (.ops false [
   ⟨some 3, .mov (.t 0), none⟩,
   ⟨some 4, .call 29 [.t 3, .k (.int 0), .k (.int 40)], none⟩,
   ⟨some 2, .mov (.t 4), none⟩] (some [2]))
 .ret))

theorem m40 : fmatch Tryd.prog Tryd.f40 1 [.tmp 2] v40 = true := by kernel_rfl

/-- steening/mouths.gauges -/
def v41 : VC :=
 (.seq
 (.ops false [
   ⟨some 2, .box 2 2 (.t 0), none⟩,
   ⟨some 3, .box 3 1 (.t 1), none⟩,
   ⟨some 4, .nils 4 1, none⟩] (some [2, 3]))
 (.seq
 (.ops false [
   ⟨some 8, .fld 0 (.t 2), none⟩,
   ⟨some 9, .load 1 false (.t 8) [], none⟩,
   ⟨some 10, .len (.t 9), none⟩,
   ⟨some 11, .makes 11 1 8 false [.int 0] (.t 10), none⟩,
   ⟨some 5, .alloc 5 [.sl 1 [] .full], none⟩,
   ⟨none, .store 1 (.t 5) (.t 11) (some 5), none⟩] (some [2, 3, 5]))
 (.seq
 (.seq
 (.ops false [
   ⟨some 12, .load 2 true (.t 2) [], none⟩,
   ⟨some 13, .build [.sl 1 [] .sh, .sl 1 [] .sh, .int 0, .int 0, .int 0, .int 0, .int 0] [(0, 2, .t 12)], none⟩,
   ⟨some 14, .mkm 30 [.t 13], none⟩] (some [3, 5, 14]))
 (.block 0
  (.range (.t 14) [15, 16]
   (.seq
   (.ops false [
     ⟨some 6, .mov (.t 15), none⟩] (some [3, 5, 6, 16]))
   (.ops false [
     ⟨some 7, .mov (.t 16), none⟩] (some [3, 5, 6, 7])))
   (.block 1
    (.seq
    (.seq
    (.ops false [
      ⟨some 17, .mov (.t 6), none⟩,
      ⟨some 18, .load 1 false (.t 3) [], none⟩,
      ⟨some 19, .bin .eql (.t 17) (.t 18), none⟩] (some [5, 7, 19]))
    (.cond (.t 19)
     (.exit 0)
     .skip))
    (.seq
    (.ops false [
      ⟨some 20, .mov (.t 7), none⟩,
      ⟨some 21, .bin .geq (.t 20) (.k (.int 0)), none⟩] (some [5, 7, 21]))
    (.cond (.t 21)
     (.ops false [
       ⟨some 22, .load 1 false (.t 5) [], none⟩,
       ⟨some 23, .mov (.t 7), none⟩,
       ⟨some 24, .idx 1 (.t 22) (.t 23), none⟩,
       ⟨some 25, .load 1 false (.t 24) [], none⟩,
       ⟨some 26, .bin .add (.t 25) (.k (.int 1)), none⟩,
       ⟨some 27, .idx 1 (.t 22) (.t 23), none⟩,
       ⟨none, .store 1 (.t 27) (.t 26) none, none⟩] (some []))
     .skip)))))))
 (.seq
 (.ops false [
   ⟨some 28, .load 1 false (.t 5) [], none⟩,
   ⟨some 4, .mov (.t 28), none⟩] (some [4]))
 .ret))))

theorem m41 : fmatch Tryd.prog Tryd.f41 2 [.tmp 4] v41 = true := by kernel_rfl

/-- steening/mouths.Check -/
def v42 : VC :=
 (.seq
 (.ops false [
   ⟨some 1, .box 1 2 (.t 0), none⟩,
   ⟨some 2, .mov (.k (.int 0)), none⟩] (some [1]))
 (.seq
 (.seq
 (.ops false [
   ⟨some 3, .fld 0 (.t 1), none⟩,
   ⟨some 4, .load 1 false (.t 3) [], none⟩,
   ⟨some 5, .len (.t 4), none⟩,
   ⟨some 6, .bin .gtr (.t 5) (.k (.int 5)), none⟩,
   ⟨some 7, .mov (.t 6), none⟩,
   ⟨some 8, .fld 1 (.t 1), some (7, false)⟩,
   ⟨some 9, .load 1 false (.t 8) [], some (7, false)⟩,
   ⟨some 10, .len (.t 9), some (7, false)⟩,
   ⟨some 11, .fld 0 (.t 1), some (7, false)⟩,
   ⟨some 12, .load 1 false (.t 11) [], some (7, false)⟩,
   ⟨some 13, .len (.t 12), some (7, false)⟩,
   ⟨some 14, .bin .neq (.t 10) (.t 13), some (7, false)⟩,
   ⟨some 15, .pick (.t 7) (.k (.bool true)) (.t 14), none⟩,
   ⟨some 16, .mov (.t 15), none⟩,
   ⟨some 17, .fld 0 (.t 1), some (16, false)⟩,
   ⟨some 18, .load 1 false (.t 17) [], some (16, false)⟩,
   ⟨some 19, .call 55 [.k (.int 20), .t 18], some (16, false)⟩,
   ⟨some 20, .not (.t 19), some (16, false)⟩,
   ⟨some 21, .pick (.t 16) (.k (.bool true)) (.t 20), none⟩,
   ⟨some 22, .mov (.t 21), none⟩,
   ⟨some 23, .fld 1 (.t 1), some (22, false)⟩,
   ⟨some 24, .load 1 false (.t 23) [], some (22, false)⟩,
   ⟨some 25, .call 55 [.k (.int 20), .t 24], some (22, false)⟩,
   ⟨some 26, .not (.t 25), some (22, false)⟩,
   ⟨some 27, .pick (.t 22) (.k (.bool true)) (.t 26), none⟩] (some [27]))
 (.cond (.t 27)
  (.seq
  (.ops false [
    ⟨some 2, .mov (.k (.int 70)), none⟩] (some [2]))
  .ret)
  .skip))
 (.seq
 (.ops false [
   ⟨some 2, .mov (.k (.int 0)), none⟩] (some [2]))
 .ret)))

theorem m42 : fmatch Tryd.prog Tryd.f42 1 [.tmp 2] v42 = true := by kernel_rfl

/-- (*steening/mouths.gate).next -/
def v43 : VC :=
 (.seq
 (.ops false [
   ⟨some 2, .mov (.k (.int 0)), none⟩] (some [0]))
 (.seq
 (.ops false [
   ⟨some 3, .mov (.k (.int (-1))), none⟩] (some [0, 3]))
 (.seq
 (.seq
 (.ops false [
   ⟨some 6, .mov (.t 0), none⟩,
   ⟨some 7, .nilck (.t 6), none⟩,
   ⟨some 8, .fld 0 (.t 7), none⟩,
   ⟨some 9, .fld 0 (.t 8), none⟩,
   ⟨some 10, .load 1 false (.t 9) [], none⟩,
   ⟨some 11, .len (.t 10), none⟩,
   ⟨some 12, .mov (.k (.int 0)), none⟩] (some [0, 3, 10, 11, 12]))
 (.block 0
  (.loop
   (.seq
   (.ops false [
     ⟨some 13, .bin .lss (.t 12) (.t 11), none⟩] (some [0, 3, 10, 11, 12, 13]))
   (.seq
   (.cond (.t 13)
    .skip
    (.exit 0))
   (.seq
   (.block 1
    (.seq
    (.ops false [
      ⟨some 14, .mov (.t 12), none⟩,
      ⟨some 15, .idx 1 (.t 10) (.t 12), none⟩,
      ⟨some 16, .load 1 false (.t 15) [], none⟩,
      ⟨some 4, .mov (.t 14), none⟩,
      ⟨some 5, .mov (.t 16), none⟩] (some [0, 3, 4, 5, 10, 11, 12]))
    (.block 2
     (.seq
     (.ops true [
       ⟨some 18, .mov (.t 5), none⟩,
       ⟨some 19, .bin .eql (.t 18) (.k (.int 0)), none⟩,
       ⟨some 20, .mov (.t 19), none⟩,
       ⟨some 21, .mov (.t 0), some (20, false)⟩,
       ⟨some 22, .mov (.t 4), some (20, false)⟩,
       ⟨some 23, .nilck (.t 21), some (20, false)⟩,
       ⟨some 24, .fld 2 (.t 23), some (20, false)⟩,
       ⟨some 25, .idxA 5 1 (.t 24) (.t 22), some (20, false)⟩,
       ⟨some 26, .load 1 false (.t 25) [], some (20, false)⟩,
       ⟨some 27, .mov (.t 0), some (20, false)⟩,
       ⟨some 28, .nilck (.t 27), some (20, false)⟩,
       ⟨some 29, .fld 0 (.t 28), some (20, false)⟩,
       ⟨some 30, .fld 1 (.t 29), some (20, false)⟩,
       ⟨some 31, .load 1 false (.t 30) [], some (20, false)⟩,
       ⟨some 32, .mov (.t 4), some (20, false)⟩,
       ⟨some 33, .idx 1 (.t 31) (.t 32), some (20, false)⟩,
       ⟨some 34, .load 1 false (.t 33) [], some (20, false)⟩,
       ⟨some 35, .bin .geq (.t 26) (.t 34), some (20, false)⟩,
       ⟨some 36, .pick (.t 20) (.k (.bool true)) (.t 35), none⟩,
       ⟨some 17, .mov (.t 36), none⟩] (some [0, 3, 4, 5, 10, 11, 12, 17]))
     (.cond (.t 17)
      .skip
      (.seq
      (.ops true [
        ⟨some 38, .mov (.t 3), none⟩,
        ⟨some 39, .bin .lss (.t 38) (.k (.int 0)), none⟩,
        ⟨some 40, .mov (.t 39), none⟩,
        ⟨some 41, .mov (.t 5), some (40, false)⟩,
        ⟨some 42, .mov (.t 0), some (40, false)⟩,
        ⟨some 43, .mov (.t 3), some (40, false)⟩,
        ⟨some 44, .nilck (.t 42), some (40, false)⟩,
        ⟨some 45, .fld 2 (.t 44), some (40, false)⟩,
        ⟨some 46, .idxA 5 1 (.t 45) (.t 43), some (40, false)⟩,
        ⟨some 47, .load 1 false (.t 46) [], some (40, false)⟩,
        ⟨some 48, .bin .mul (.k (.int 2)) (.t 47), some (40, false)⟩,
        ⟨some 49, .bin .add (.t 48) (.k (.int 1)), some (40, false)⟩,
        ⟨some 50, .bin .mul (.t 41) (.t 49), some (40, false)⟩,
        ⟨some 51, .mov (.t 0), some (40, false)⟩,
        ⟨some 52, .nilck (.t 51), some (40, false)⟩,
        ⟨some 53, .fld 0 (.t 52), some (40, false)⟩,
        ⟨some 54, .fld 0 (.t 53), some (40, false)⟩,
        ⟨some 55, .load 1 false (.t 54) [], some (40, false)⟩,
        ⟨some 56, .mov (.t 3), some (40, false)⟩,
        ⟨some 57, .idx 1 (.t 55) (.t 56), some (40, false)⟩,
        ⟨some 58, .load 1 false (.t 57) [], some (40, false)⟩,
        ⟨some 59, .mov (.t 0), some (40, false)⟩,
        ⟨some 60, .mov (.t 4), some (40, false)⟩,
        ⟨some 61, .nilck (.t 59), some (40, false)⟩,
        ⟨some 62, .fld 2 (.t 61), some (40, false)⟩,
        ⟨some 63, .idxA 5 1 (.t 62) (.t 60), some (40, false)⟩,
        ⟨some 64, .load 1 false (.t 63) [], some (40, false)⟩,
        ⟨some 65, .bin .mul (.k (.int 2)) (.t 64), some (40, false)⟩,
        ⟨some 66, .bin .add (.t 65) (.k (.int 1)), some (40, false)⟩,
        ⟨some 67, .bin .mul (.t 58) (.t 66), some (40, false)⟩,
        ⟨some 68, .bin .gtr (.t 50) (.t 67), some (40, false)⟩,
        ⟨some 69, .pick (.t 40) (.k (.bool true)) (.t 68), none⟩,
        ⟨some 37, .mov (.t 69), none⟩] (some [0, 3, 4, 10, 11, 12, 37]))
      (.cond (.t 37)
       (.ops false [
         ⟨some 70, .mov (.t 4), none⟩,
         ⟨some 3, .mov (.t 70), none⟩] (some [0, 3, 10, 11, 12]))
       .skip)))))))
   (.ops false [
     ⟨some 71, .bin .add (.t 12) (.k (.int 1)), none⟩,
     ⟨some 12, .mov (.t 71), none⟩] (some [0, 3, 10, 11, 12]))))))))
 (.seq
 (.ops false [
   ⟨some 72, .mov (.t 3), none⟩,
   ⟨some 2, .mov (.t 72), none⟩] (some [2]))
 .ret))))

theorem m43 : fmatch Tryd.prog Tryd.f43 1 [.tmp 2] v43 = true := by kernel_rfl

/-- slices.ContainsFunc[[]int,int] -/
def v44 : VC :=
 (.seq
 (.ops false [
   ⟨some 4, .mov (.k (.bool false)), none⟩] (some [0, 1]))
 (.seq
 (.ops false [
   ⟨some 5, .mov (.t 0), none⟩,
   ⟨some 6, .mov (.t 1), none⟩,
   ⟨some 7, .call 56 [.t 5, .t 6], none⟩,
   ⟨some 8, .bin .geq (.t 7) (.k (.int 0)), none⟩,
   ⟨some 4, .mov (.t 8), none⟩] (some [4]))
 .ret))

theorem m44 : fmatch Tryd.prog Tryd.f44 2 [.tmp 4] v44 = true := by kernel_rfl

/-- steening/buckets.Check$1 -/
def v45 : VC :=
 (.seq
 (.ops false [
   ⟨some 2, .mov (.k (.bool false)), none⟩] (some [0]))
 (.seq
 (.ops false [
   ⟨some 3, .mov (.t 0), none⟩,
   ⟨some 4, .call 46 [.t 3, .k (.int 0), .k (.int 9)], none⟩,
   ⟨some 5, .not (.t 4), none⟩,
   ⟨some 2, .mov (.t 5), none⟩] (some [2]))
 .ret))

theorem m45 : fmatch Tryd.prog Tryd.f45 1 [.tmp 2] v45 = true := by kernel_rfl

/-- steening/buckets.within -/
def v46 : VC :=
 (.seq
 (.ops false [
   ⟨some 6, .mov (.k (.bool false)), none⟩] (some [0, 1, 2]))
 (.seq
 (.ops false [
   ⟨some 7, .mov (.t 1), none⟩,
   ⟨some 8, .mov (.t 0), none⟩,
   ⟨some 9, .bin .leq (.t 7) (.t 8), none⟩,
   ⟨some 10, .mov (.t 9), none⟩,
   ⟨some 11, .mov (.t 0), some (10, true)⟩,
   ⟨some 12, .mov (.t 2), some (10, true)⟩,
   ⟨some 13, .bin .leq (.t 11) (.t 12), some (10, true)⟩,
   ⟨some 14, .pick (.t 10) (.t 13) (.k (.bool false)), none⟩,
   ⟨some 6, .mov (.t 14), none⟩] (some [6]))
 .ret))

theorem m46 : fmatch Tryd.prog Tryd.f46 3 [.tmp 6] v46 = true := by kernel_rfl

/-- steening/buckets.Check$2 -/
def v47 : VC :=
 (.seq
 (.ops false [
   ⟨some 2, .mov (.k (.bool false)), none⟩] (some [0]))
 (.seq
 (.ops false [
   ⟨some 3, .mov (.t 0), none⟩,
   ⟨some 4, .call 46 [.t 3, .k (.int 0), .k (.int 20)], none⟩,
   ⟨some 5, .not (.t 4), none⟩,
   ⟨some 2, .mov (.t 5), none⟩] (some [2]))
 .ret))

theorem m47 : fmatch Tryd.prog Tryd.f47 1 [.tmp 2] v47 = true := by kernel_rfl

/-- steening/buckets.isHouse -/
def v48 : VC :=
 (.seq
 (.ops false [
   ⟨some 2, .box 2 3 (.t 0), none⟩,
   ⟨some 4, .mov (.k (.bool false)), none⟩] (some [1, 2]))
 (.seq
 (.ops false [
   ⟨some 5, .mov (.t 1), none⟩,
   ⟨some 6, .fld 0 (.t 2), none⟩,
   ⟨some 7, .load 1 false (.t 6) [], none⟩,
   ⟨some 8, .len (.t 7), none⟩,
   ⟨some 9, .bin .sub (.t 8) (.k (.int 1)), none⟩,
   ⟨some 10, .call 46 [.t 5, .k (.int 0), .t 9], none⟩,
   ⟨some 4, .mov (.t 10), none⟩] (some [4]))
 .ret))

theorem m48 : fmatch Tryd.prog Tryd.f48 2 [.tmp 4] v48 = true := by kernel_rfl

/-- steening/buckets.isWell -/
def v49 : VC :=
 (.seq
 (.ops false [
   ⟨some 2, .box 2 3 (.t 0), none⟩,
   ⟨some 4, .mov (.k (.bool false)), none⟩] (some [1, 2]))
 (.seq
 (.ops false [
   ⟨some 5, .mov (.t 1), none⟩,
   ⟨some 6, .fld 1 (.t 2), none⟩,
   ⟨some 7, .load 1 false (.t 6) [], none⟩,
   ⟨some 8, .len (.t 7), none⟩,
   ⟨some 9, .bin .sub (.t 8) (.k (.int 1)), none⟩,
   ⟨some 10, .call 46 [.t 5, .k (.int 0), .t 9], none⟩,
   ⟨some 4, .mov (.t 10), none⟩] (some [4]))
 .ret))

theorem m49 : fmatch Tryd.prog Tryd.f49 2 [.tmp 4] v49 = true := by kernel_rfl

/-- steening/buckets.order -/
def v50 : VC :=
 (.seq
 (.ops false [
   ⟨some 2, .box 2 2 (.t 0), none⟩,
   ⟨some 3, .box 3 2 (.t 1), none⟩,
   ⟨some 4, .mov (.k (.int 0)), none⟩] (some [2, 3]))
 (.seq
 (.ops true [
   ⟨some 5, .fld 0 (.t 2), none⟩,
   ⟨some 6, .load 1 false (.t 5) [], none⟩,
   ⟨some 7, .fld 0 (.t 3), none⟩,
   ⟨some 8, .load 1 false (.t 7) [], none⟩,
   ⟨some 9, .call 58 [.t 6, .t 8], none⟩,
   ⟨some 10, .fld 1 (.t 2), none⟩,
   ⟨some 11, .load 1 false (.t 10) [], none⟩,
   ⟨some 12, .fld 1 (.t 3), none⟩,
   ⟨some 13, .load 1 false (.t 12) [], none⟩,
   ⟨some 14, .call 58 [.t 11, .t 13], none⟩,
   ⟨some 15, .bslice 1 [.t 9, .t 14], none⟩,
   ⟨some 16, .call 57 [.t 15], none⟩,
   ⟨some 4, .mov (.t 16), none⟩] (some [4]))
 .ret))

theorem m50 : fmatch Tryd.prog Tryd.f50 2 [.tmp 4] v50 = true := by kernel_rfl

/-- steening/buckets.left -/
def v51 (b1 b2 : List (Nat × Nat × BX)) : VC :=
 (.seq
 (.ops false [
   ⟨some 2, .box 2 3 (.t 0), none⟩,
   ⟨some 4, .nils 4 1, none⟩,
   ⟨some 5, .nils 5 1, none⟩] (some [1, 2]))
 (.seq
 (.ops true [
   ⟨some 8, .fld 0 (.t 2), none⟩,
   ⟨some 9, .load 1 false (.t 8) [1048576], none⟩,
   ⟨some 10, .calls 36 1 [.t 9] b1, none⟩,
   ⟨some 11, .fld 1 (.t 2), none⟩,
   ⟨some 12, .load 1 false (.t 11) [1048576], none⟩,
   ⟨some 13, .calls 36 2 [.t 12] b2, none⟩,
   ⟨some 4, .mov (.t 10), none⟩,
   ⟨some 5, .mov (.t 13), none⟩] (some [1, 2, 4, 5]))
 (.seq
 (.seq
 (.ops false [
   ⟨some 14, .mov (.t 1), none⟩,
   ⟨some 15, .len (.t 14), none⟩,
   ⟨some 16, .mov (.k (.int 0)), none⟩] (some [2, 4, 5, 14, 15, 16]))
 (.block 0
  (.loop
   (.seq
   (.ops false [
     ⟨some 17, .bin .lss (.t 16) (.t 15), none⟩] (some [2, 4, 5, 14, 15, 16, 17]))
   (.seq
   (.cond (.t 17)
    .skip
    (.exit 0))
   (.seq
   (.block 1
    (.seq
    (.ops false [
      ⟨some 18, .mov (.t 16), none⟩,
      ⟨some 19, .idx 1 (.t 14) (.t 16), none⟩,
      ⟨some 20, .load 1 false (.t 19) [], none⟩,
      ⟨some 6, .mov (.t 18), none⟩,
      ⟨some 7, .mov (.t 20), none⟩] (some [2, 4, 5, 6, 7, 14, 15, 16]))
    (.seq
    (.ops false [
      ⟨some 21, .mov (.t 4), none⟩,
      ⟨some 22, .fld 2 (.t 2), none⟩,
      ⟨some 23, .load 1 false (.t 22) [], none⟩,
      ⟨some 24, .mov (.t 6), none⟩,
      ⟨some 25, .idx 2 (.t 23) (.t 24), none⟩,
      ⟨some 26, .fld 0 (.t 25), none⟩,
      ⟨some 27, .load 1 false (.t 26) [], none⟩,
      ⟨some 28, .idx 1 (.t 21) (.t 27), none⟩,
      ⟨some 29, .load 1 false (.t 28) [], none⟩,
      ⟨some 30, .mov (.t 7), none⟩,
      ⟨some 31, .bin .sub (.t 29) (.t 30), none⟩,
      ⟨some 32, .idx 1 (.t 21) (.t 27), none⟩,
      ⟨none, .store 1 (.t 32) (.t 31) none, none⟩] (some [2, 4, 5, 6, 7, 14, 15, 16]))
    (.ops false [
      ⟨some 33, .mov (.t 5), none⟩,
      ⟨some 34, .fld 2 (.t 2), none⟩,
      ⟨some 35, .load 1 false (.t 34) [], none⟩,
      ⟨some 36, .mov (.t 6), none⟩,
      ⟨some 37, .idx 2 (.t 35) (.t 36), none⟩,
      ⟨some 38, .fld 1 (.t 37), none⟩,
      ⟨some 39, .load 1 false (.t 38) [], none⟩,
      ⟨some 40, .idx 1 (.t 33) (.t 39), none⟩,
      ⟨some 41, .load 1 false (.t 40) [], none⟩,
      ⟨some 42, .mov (.t 7), none⟩,
      ⟨some 43, .bin .sub (.t 41) (.t 42), none⟩,
      ⟨some 44, .idx 1 (.t 33) (.t 39), none⟩,
      ⟨none, .store 1 (.t 44) (.t 43) none, none⟩] (some [2, 4, 5, 14, 15, 16])))))
   (.ops false [
     ⟨some 45, .bin .add (.t 16) (.k (.int 1)), none⟩,
     ⟨some 16, .mov (.t 45), none⟩] (some [2, 4, 5, 14, 15, 16]))))))))
 (.seq
 (.ops false [
   ⟨some 46, .mov (.t 4), none⟩,
   ⟨some 47, .mov (.t 5), none⟩,
   ⟨some 4, .mov (.t 46), none⟩,
   ⟨some 5, .mov (.t 47), none⟩] (some [4, 5]))
 .ret))))

theorem m51 (b1 b2 : List (Nat × Nat × BX)) : fmatch Tryd.prog Tryd.f51 2 [.tmp 4, .tmp 5] (v51 b1 b2) = true := by kernel_rfl

/-- steening/buckets.sorted -/
def v52 : VC :=
 (.seq
 (.ops false [
   ⟨some 2, .nils 7002 1, none⟩] (some [0]))
 (.seq
 (.ops false [
   ⟨some 3, .mov (.t 0), none⟩,
   ⟨some 4, .calli 59 [.t 3, .k (.clo 60 [] [])], none⟩] (some [0]))
 (.seq
 (.ops false [
   ⟨some 5, .mov (.t 0), none⟩,
   ⟨some 2, .mov (.t 5), none⟩] (some [2]))
 .ret)))

theorem m52 : fmatch Tryd.prog Tryd.f52 1 [.tmp 2] v52 = true := by kernel_rfl

/-- (*steening/buckets.town).cheapest -/
def v53 : VC :=
 (.seq
 (.ops false [
   ⟨some 2, .nils 2 5, none⟩,
   ⟨some 3, .mov (.k (.int 0)), none⟩] (some [0]))
 (.seq
 (.ops true [
   ⟨some 11, .mov (.t 0), none⟩,
   ⟨some 12, .nilck (.t 11), none⟩,
   ⟨some 13, .fld 0 (.t 12), none⟩,
   ⟨some 14, .fld 1 (.t 13), none⟩,
   ⟨some 15, .load 1 false (.t 14) [], none⟩,
   ⟨some 16, .len (.t 15), none⟩,
   ⟨some 17, .mov (.t 0), none⟩,
   ⟨some 18, .nilck (.t 17), none⟩,
   ⟨some 19, .fld 0 (.t 18), none⟩,
   ⟨some 20, .fld 0 (.t 19), none⟩,
   ⟨some 21, .load 1 false (.t 20) [], none⟩,
   ⟨some 22, .len (.t 21), none⟩,
   ⟨some 23, .bin .add (.t 16) (.t 22), none⟩,
   ⟨some 24, .bin .add (.t 23) (.k (.int 2)), none⟩,
   ⟨some 4, .mov (.t 24), none⟩] (some [0, 4]))
 (.seq
 (.ops true [
   ⟨some 25, .mov (.t 4), none⟩,
   ⟨some 26, .makes 26 1 8 false [.int 0] (.t 25), none⟩,
   ⟨some 27, .mov (.t 4), none⟩,
   ⟨some 28, .makes 28 5 40 true [.int 0, .int 0, .int 0, .int 0, .int 0] (.t 27), none⟩,
   ⟨some 5, .alloc 5 [.sl 1 [] .full], none⟩,
   ⟨some 6, .alloc 6 [.sl 5 [] .full], none⟩,
   ⟨none, .store 1 (.t 5) (.t 26) (some 5), none⟩,
   ⟨none, .store 1 (.t 6) (.t 28) (some 6), none⟩] (some [0, 4, 5, 6]))
 (.seq
 (.seq
 (.ops false [
   ⟨some 29, .load 1 false (.t 5) [], none⟩,
   ⟨some 30, .len (.t 29), none⟩,
   ⟨some 31, .mov (.k (.int 0)), none⟩] (some [0, 4, 5, 6, 30, 31]))
 (.block 0
  (.loop
   (.seq
   (.ops false [
     ⟨some 32, .bin .lss (.t 31) (.t 30), none⟩] (some [0, 4, 5, 6, 30, 31, 32]))
   (.seq
   (.cond (.t 32)
    .skip
    (.exit 0))
   (.seq
   (.block 1
    (.seq
    (.ops false [
      ⟨some 33, .mov (.t 31), none⟩,
      ⟨some 7, .mov (.t 33), none⟩] (some [0, 4, 5, 6, 7, 30, 31]))
    (.ops false [
      ⟨some 34, .load 1 false (.t 5) [], none⟩,
      ⟨some 35, .mov (.t 7), none⟩,
      ⟨some 36, .idx 1 (.t 34) (.t 35), none⟩,
      ⟨none, .store 1 (.t 36) (.k (.int 1152921504606846976)) none, none⟩] (some [0, 4, 5, 6, 30, 31]))))
   (.ops false [
     ⟨some 37, .bin .add (.t 31) (.k (.int 1)), none⟩,
     ⟨some 31, .mov (.t 37), none⟩] (some [0, 4, 5, 6, 30, 31]))))))))
 (.seq
 (.ops false [
   ⟨some 38, .load 1 false (.t 5) [], none⟩,
   ⟨some 39, .mov (.t 4), none⟩,
   ⟨some 40, .bin .sub (.t 39) (.k (.int 2)), none⟩,
   ⟨some 41, .idx 1 (.t 38) (.t 40), none⟩,
   ⟨none, .store 1 (.t 41) (.k (.int 0)) none, none⟩] (some [0, 4, 5, 6]))
 (.seq
 (.seq
 (.ops false [
   ⟨some 42, .mov (.t 4), none⟩,
   ⟨some 43, .mov (.k (.int 0)), none⟩] (some [0, 4, 5, 6, 42, 43]))
 (.block 2
  (.loop
   (.seq
   (.ops false [
     ⟨some 44, .bin .lss (.t 43) (.t 42), none⟩] (some [0, 4, 5, 6, 42, 43, 44]))
   (.seq
   (.cond (.t 44)
    .skip
    (.exit 2))
   (.seq
   (.block 3
    (.seq
    (.ops false [
      ⟨some 45, .mov (.t 0), none⟩,
      ⟨some 46, .mkm 61 [.t 45], none⟩] (some [0, 4, 5, 6, 42, 43, 46]))
    (.block 4
     (.range (.t 46) [47]
      (.opsN false [
        ⟨some 8, .alloc 8 [.int 0, .int 0, .int 0, .int 0, .int 0], none⟩,
        ⟨none, .store 5 (.t 8) (.t 47) (some 8), none⟩] (some [5, 6, 8]))
      (.block 5
       (.seq
       (.ops true [
         ⟨some 48, .load 1 false (.t 5) [], none⟩,
         ⟨some 49, .fld 0 (.t 8), none⟩,
         ⟨some 50, .load 1 false (.t 49) [], none⟩,
         ⟨some 51, .idx 1 (.t 48) (.t 50), none⟩,
         ⟨some 52, .load 1 false (.t 51) [], none⟩,
         ⟨some 53, .bin .lss (.t 52) (.k (.int 1152921504606846976)), none⟩,
         ⟨some 54, .mov (.t 53), none⟩,
         ⟨some 55, .load 1 false (.t 5) [], some (54, true)⟩,
         ⟨some 56, .fld 0 (.t 8), some (54, true)⟩,
         ⟨some 57, .load 1 false (.t 56) [], some (54, true)⟩,
         ⟨some 58, .idx 1 (.t 55) (.t 57), some (54, true)⟩,
         ⟨some 59, .load 1 false (.t 58) [], some (54, true)⟩,
         ⟨some 60, .fld 2 (.t 8), some (54, true)⟩,
         ⟨some 61, .load 1 false (.t 60) [], some (54, true)⟩,
         ⟨some 62, .bin .add (.t 59) (.t 61), some (54, true)⟩,
         ⟨some 63, .load 1 false (.t 5) [], some (54, true)⟩,
         ⟨some 64, .fld 1 (.t 8), some (54, true)⟩,
         ⟨some 65, .load 1 false (.t 64) [], some (54, true)⟩,
         ⟨some 66, .idx 1 (.t 63) (.t 65), some (54, true)⟩,
         ⟨some 67, .load 1 false (.t 66) [], some (54, true)⟩,
         ⟨some 68, .bin .lss (.t 62) (.t 67), some (54, true)⟩,
         ⟨some 69, .pick (.t 54) (.t 68) (.k (.bool false)), none⟩] (some [5, 6, 8, 69]))
       (.cond (.t 69)
        (.ops true [
          ⟨some 70, .load 1 false (.t 5) [26, 28], none⟩,
          ⟨some 71, .fld 1 (.t 8), none⟩,
          ⟨some 72, .load 1 false (.t 71) [26, 28], none⟩,
          ⟨some 73, .load 1 false (.t 6) [26, 28], none⟩,
          ⟨some 74, .fld 1 (.t 8), none⟩,
          ⟨some 75, .load 1 false (.t 74) [26, 28], none⟩,
          ⟨some 76, .load 1 false (.t 5) [26, 28], none⟩,
          ⟨some 77, .fld 0 (.t 8), none⟩,
          ⟨some 78, .load 1 false (.t 77) [26, 28], none⟩,
          ⟨some 79, .idx 1 (.t 76) (.t 78), none⟩,
          ⟨some 80, .load 1 false (.t 79) [28], none⟩,
          ⟨some 81, .fld 2 (.t 8), none⟩,
          ⟨some 82, .load 1 false (.t 81) [26, 28], none⟩,
          ⟨some 83, .bin .add (.t 80) (.t 82), none⟩,
          ⟨some 84, .load 5 true (.t 8) [26, 28], none⟩,
          ⟨some 85, .idx 1 (.t 70) (.t 72), none⟩,
          ⟨none, .store 1 (.t 85) (.t 83) (some 26), none⟩,
          ⟨some 86, .idx 5 (.t 73) (.t 75), none⟩,
          ⟨none, .store 5 (.t 86) (.t 84) (some 28), none⟩] (some []))
        .skip)))))))
   (.ops false [
     ⟨some 87, .bin .add (.t 43) (.k (.int 1)), none⟩,
     ⟨some 43, .mov (.t 87), none⟩] (some [0, 4, 5, 6, 42, 43]))))))))
 (.seq
 (.ops false [
   ⟨some 9, .nilsG 3 none 5 true, none⟩] (some [4, 5, 6, 9]))
 (.seq
 (.seq
 (.ops false [
   ⟨some 88, .load 1 false (.t 5) [], none⟩,
   ⟨some 89, .mov (.t 4), none⟩,
   ⟨some 90, .bin .sub (.t 89) (.k (.int 1)), none⟩,
   ⟨some 91, .idx 1 (.t 88) (.t 90), none⟩,
   ⟨some 92, .load 1 false (.t 91) [], none⟩,
   ⟨some 93, .bin .lss (.t 92) (.k (.int 1152921504606846976)), none⟩] (some [4, 5, 6, 9, 93]))
 (.cond (.t 93)
  (.seq
  (.ops false [
    ⟨some 94, .mov (.t 4), none⟩,
    ⟨some 95, .bin .sub (.t 94) (.k (.int 1)), none⟩,
    ⟨some 10, .mov (.t 95), none⟩] (some [4, 5, 6, 9, 10]))
  (.block 6
   (.loop
    (.seq
    (.seq
    (.ops false [
      ⟨some 96, .mov (.t 10), none⟩,
      ⟨some 97, .mov (.t 4), none⟩,
      ⟨some 98, .bin .sub (.t 97) (.k (.int 2)), none⟩,
      ⟨some 99, .bin .neq (.t 96) (.t 98), none⟩] (some [4, 5, 6, 9, 10, 99]))
    (.cond (.t 99)
     .skip
     (.exit 6)))
    (.seq
    (.block 7
     (.ops false [
       ⟨some 105, .mov (.t 9), none⟩,
       ⟨some 106, .load 1 false (.t 6) [], none⟩,
       ⟨some 107, .mov (.t 10), none⟩,
       ⟨some 108, .idx 5 (.t 106) (.t 107), none⟩,
       ⟨some 109, .load 5 true (.t 108) [], none⟩,
       ⟨some 110, .bslice 5 [.t 109], none⟩,
       ⟨some 111, .appG 3 none 5 40 true (.t 105) (.t 110), none⟩,
       ⟨some 9, .mov (.t 111), none⟩] (some [4, 5, 6, 9, 10])))
    (.ops false [
      ⟨some 100, .load 1 false (.t 6) [], none⟩,
      ⟨some 101, .mov (.t 10), none⟩,
      ⟨some 102, .idx 5 (.t 100) (.t 101), none⟩,
      ⟨some 103, .fld 0 (.t 102), none⟩,
      ⟨some 104, .load 1 false (.t 103) [], none⟩,
      ⟨some 10, .mov (.t 104), none⟩] (some [4, 5, 6, 9, 10])))))))
  .skip))
 (.seq
 (.ops true [
   ⟨some 112, .mov (.t 9), none⟩,
   ⟨some 113, .load 1 false (.t 5) [], none⟩,
   ⟨some 114, .mov (.t 4), none⟩,
   ⟨some 115, .bin .sub (.t 114) (.k (.int 1)), none⟩,
   ⟨some 116, .idx 1 (.t 113) (.t 115), none⟩,
   ⟨some 117, .load 1 false (.t 116) [], none⟩,
   ⟨some 2, .mov (.t 112), none⟩,
   ⟨some 3, .mov (.t 117), none⟩] (some [2, 3]))
 .ret)))))))))

theorem m53 : fmatch Tryd.prog Tryd.f53 1 [.tmp 2, .tmp 3] v53 = true := by kernel_rfl

/-- slices.Compare[[]int,int] -/
def v54 : VC :=
 (.seq
 (.ops false [
   ⟨some 4, .mov (.k (.int 0)), none⟩] (some [0, 1]))
 (.seq
 (.seq
 (.ops false [
   ⟨some 9, .mov (.t 0), none⟩,
   ⟨some 10, .len (.t 9), none⟩,
   ⟨some 11, .mov (.k (.int 0)), none⟩] (some [0, 1, 9, 10, 11]))
 (.block 0
  (.loop
   (.seq
   (.ops false [
     ⟨some 12, .bin .lss (.t 11) (.t 10), none⟩] (some [0, 1, 9, 10, 11, 12]))
   (.seq
   (.cond (.t 12)
    .skip
    (.exit 0))
   (.seq
   (.block 1
    (.seq
    (.ops false [
      ⟨some 13, .mov (.t 11), none⟩,
      ⟨some 14, .idx 1 (.t 9) (.t 11), none⟩,
      ⟨some 15, .load 1 false (.t 14) [], none⟩,
      ⟨some 5, .mov (.t 13), none⟩,
      ⟨some 6, .mov (.t 15), none⟩] (some [0, 1, 5, 6, 9, 10, 11]))
    (.seq
    (.seq
    (.ops false [
      ⟨some 16, .mov (.t 5), none⟩,
      ⟨some 17, .mov (.t 1), none⟩,
      ⟨some 18, .len (.t 17), none⟩,
      ⟨some 19, .bin .geq (.t 16) (.t 18), none⟩] (some [0, 1, 5, 6, 9, 10, 11, 19]))
    (.cond (.t 19)
     (.seq
     (.ops false [
       ⟨some 4, .mov (.k (.int 1)), none⟩] (some [4]))
     .ret)
     .skip))
    (.seq
    (.ops false [
      ⟨some 20, .mov (.t 1), none⟩,
      ⟨some 21, .mov (.t 5), none⟩,
      ⟨some 22, .idx 1 (.t 20) (.t 21), none⟩,
      ⟨some 23, .load 1 false (.t 22) [], none⟩,
      ⟨some 7, .mov (.t 23), none⟩] (some [0, 1, 6, 7, 9, 10, 11]))
    (.seq
    (.ops false [
      ⟨some 24, .mov (.t 6), none⟩,
      ⟨some 25, .mov (.t 7), none⟩,
      ⟨some 26, .call 58 [.t 24, .t 25], none⟩,
      ⟨some 8, .mov (.t 26), none⟩] (some [0, 1, 8, 9, 10, 11]))
    (.seq
    (.ops false [
      ⟨some 27, .mov (.t 8), none⟩,
      ⟨some 28, .bin .neq (.t 27) (.k (.int 0)), none⟩] (some [0, 1, 8, 9, 10, 11, 28]))
    (.cond (.t 28)
     (.seq
     (.ops false [
       ⟨some 29, .mov (.t 8), none⟩,
       ⟨some 4, .mov (.t 29), none⟩] (some [4]))
     .ret)
     .skip)))))))
   (.ops false [
     ⟨some 30, .bin .add (.t 11) (.k (.int 1)), none⟩,
     ⟨some 11, .mov (.t 30), none⟩] (some [0, 1, 9, 10, 11]))))))))
 (.seq
 (.seq
 (.ops false [
   ⟨some 31, .mov (.t 0), none⟩,
   ⟨some 32, .len (.t 31), none⟩,
   ⟨some 33, .mov (.t 1), none⟩,
   ⟨some 34, .len (.t 33), none⟩,
   ⟨some 35, .bin .lss (.t 32) (.t 34), none⟩] (some [35]))
 (.cond (.t 35)
  (.seq
  (.ops false [
    ⟨some 4, .mov (.k (.int (-1))), none⟩] (some [4]))
  .ret)
  .skip))
 (.seq
 (.ops false [
   ⟨some 4, .mov (.k (.int 0)), none⟩] (some [4]))
 .ret))))

theorem m54 : fmatch Tryd.prog Tryd.f54 2 [.tmp 4] v54 = true := by kernel_rfl

/-- steening/mouths.are -/
def v55 : VC :=
 (.seq
 (.ops false [
   ⟨some 2, .box 2 1 (.t 0), none⟩,
   ⟨some 4, .mov (.k (.bool false)), none⟩] (some [1, 2]))
 (.seq
 (.ops false [
   ⟨some 5, .mov (.t 1), none⟩,
   ⟨some 6, .mkf 62 [.t 2], none⟩,
   ⟨some 7, .call 44 [.t 5, .t 6], none⟩,
   ⟨some 8, .not (.t 7), none⟩,
   ⟨some 4, .mov (.t 8), none⟩] (some [4]))
 .ret))

theorem m55 : fmatch Tryd.prog Tryd.f55 2 [.tmp 4] v55 = true := by kernel_rfl

/-- slices.IndexFunc[[]int,int] -/
def v56 : VC :=
 (.seq
 (.ops false [
   ⟨some 4, .mov (.k (.int 0)), none⟩] (some [0, 1]))
 (.seq
 (.seq
 (.ops false [
   ⟨some 6, .mov (.t 0), none⟩,
   ⟨some 7, .len (.t 6), none⟩,
   ⟨some 8, .mov (.k (.int 0)), none⟩] (some [0, 1, 7, 8]))
 (.block 0
  (.loop
   (.seq
   (.ops false [
     ⟨some 9, .bin .lss (.t 8) (.t 7), none⟩] (some [0, 1, 7, 8, 9]))
   (.seq
   (.cond (.t 9)
    .skip
    (.exit 0))
   (.seq
   (.block 1
    (.seq
    (.ops false [
      ⟨some 10, .mov (.t 8), none⟩,
      ⟨some 5, .mov (.t 10), none⟩] (some [0, 1, 5, 7, 8]))
    (.seq
    (.ops false [
      ⟨some 11, .mov (.t 1), none⟩,
      ⟨some 12, .mov (.t 0), none⟩,
      ⟨some 13, .mov (.t 5), none⟩,
      ⟨some 14, .idx 1 (.t 12) (.t 13), none⟩,
      ⟨some 15, .load 1 false (.t 14) [], none⟩,
      ⟨some 16, .callv (.t 11) [.t 15], none⟩] (some [0, 1, 5, 7, 8, 16]))
    (.cond (.t 16)
     (.seq
     (.ops false [
       ⟨some 17, .mov (.t 5), none⟩,
       ⟨some 4, .mov (.t 17), none⟩] (some [4]))
     .ret)
     .skip))))
   (.ops false [
     ⟨some 18, .bin .add (.t 8) (.k (.int 1)), none⟩,
     ⟨some 8, .mov (.t 18), none⟩] (some [0, 1, 7, 8]))))))))
 (.seq
 (.ops false [
   ⟨some 4, .mov (.k (.int (-1))), none⟩] (some [4]))
 .ret)))

theorem m56 : fmatch Tryd.prog Tryd.f56 2 [.tmp 4] v56 = true := by kernel_rfl

/-- cmp.Or[int] -/
def v57 : VC :=
 (.seq
 (.ops false [
   ⟨some 2, .mov (.k (.int 0)), none⟩] (some [0]))
 (.seq
 (.ops false [
   ⟨some 3, .mov (.k (.int 0)), none⟩] (some [0, 3]))
 (.seq
 (.seq
 (.ops false [
   ⟨some 6, .mov (.t 0), none⟩,
   ⟨some 7, .len (.t 6), none⟩,
   ⟨some 8, .mov (.k (.int 0)), none⟩] (some [3, 6, 7, 8]))
 (.block 0
  (.loop
   (.seq
   (.ops false [
     ⟨some 9, .bin .lss (.t 8) (.t 7), none⟩] (some [3, 6, 7, 8, 9]))
   (.seq
   (.cond (.t 9)
    .skip
    (.exit 0))
   (.seq
   (.block 1
    (.seq
    (.ops false [
      ⟨some 10, .idx 1 (.t 6) (.t 8), none⟩,
      ⟨some 11, .load 1 false (.t 10) [], none⟩,
      ⟨some 5, .mov (.t 11), none⟩] (some [3, 5, 6, 7, 8]))
    (.seq
    (.ops false [
      ⟨some 12, .mov (.t 5), none⟩,
      ⟨some 13, .mov (.t 3), none⟩,
      ⟨some 14, .bin .neq (.t 12) (.t 13), none⟩] (some [3, 5, 6, 7, 8, 14]))
    (.cond (.t 14)
     (.seq
     (.ops false [
       ⟨some 15, .mov (.t 5), none⟩,
       ⟨some 2, .mov (.t 15), none⟩] (some [2]))
     .ret)
     .skip))))
   (.ops false [
     ⟨some 16, .bin .add (.t 8) (.k (.int 1)), none⟩,
     ⟨some 8, .mov (.t 16), none⟩] (some [3, 6, 7, 8]))))))))
 (.seq
 (.ops false [
   ⟨some 17, .mov (.t 3), none⟩,
   ⟨some 2, .mov (.t 17), none⟩] (some [2]))
 .ret))))

theorem m57 : fmatch Tryd.prog Tryd.f57 1 [.tmp 2] v57 = true := by kernel_rfl

/-- cmp.Compare[int] -/
def v58 : VC :=
 (.seq
 (.ops false [
   ⟨some 4, .mov (.k (.int 0)), none⟩] (some [0, 1]))
 (.seq
 (.ops false [
   ⟨some 7, .mov (.t 0), none⟩,
   ⟨some 8, .call 63 [.t 7], none⟩,
   ⟨some 5, .mov (.t 8), none⟩] (some [0, 1, 5]))
 (.seq
 (.ops false [
   ⟨some 9, .mov (.t 1), none⟩,
   ⟨some 10, .call 63 [.t 9], none⟩,
   ⟨some 6, .mov (.t 10), none⟩] (some [0, 1, 5, 6]))
 (.seq
 (.seq
 (.ops false [
   ⟨some 11, .mov (.t 5), none⟩] (some [0, 1, 6, 11]))
 (.cond (.t 11)
  (.seq
  (.seq
  (.ops false [
    ⟨some 12, .mov (.t 6), none⟩] (some [12]))
  (.cond (.t 12)
   (.seq
   (.ops false [
     ⟨some 4, .mov (.k (.int 0)), none⟩] (some [4]))
   .ret)
   .skip))
  (.seq
  (.ops false [
    ⟨some 4, .mov (.k (.int (-1))), none⟩] (some [4]))
  .ret))
  .skip))
 (.seq
 (.seq
 (.ops false [
   ⟨some 13, .mov (.t 6), none⟩] (some [0, 1, 13]))
 (.cond (.t 13)
  (.seq
  (.ops false [
    ⟨some 4, .mov (.k (.int 1)), none⟩] (some [4]))
  .ret)
  .skip))
 (.seq
 (.seq
 (.ops false [
   ⟨some 14, .mov (.t 0), none⟩,
   ⟨some 15, .mov (.t 1), none⟩,
   ⟨some 16, .bin .lss (.t 14) (.t 15), none⟩] (some [0, 1, 16]))
 (.cond (.t 16)
  (.seq
  (.ops false [
    ⟨some 4, .mov (.k (.int (-1))), none⟩] (some [4]))
  .ret)
  .skip))
 (.seq
 (.seq
 (.ops false [
   ⟨some 17, .mov (.t 0), none⟩,
   ⟨some 18, .mov (.t 1), none⟩,
   ⟨some 19, .bin .gtr (.t 17) (.t 18), none⟩] (some [19]))
 (.cond (.t 19)
  (.seq
  (.ops false [
    ⟨some 4, .mov (.k (.int 1)), none⟩] (some [4]))
  .ret)
  .skip))
 (.seq
 (.ops false [
   ⟨some 4, .mov (.k (.int 0)), none⟩] (some [4]))
 .ret))))))))

theorem m58 : fmatch Tryd.prog Tryd.f58 2 [.tmp 4] v58 = true := by kernel_rfl

/-- slices.SortFunc[[]int,int] -/
def v59 : VC :=
 (.seq
 (.ops false [
   ⟨some 5, .mov (.t 0), none⟩,
   ⟨some 6, .len (.t 5), none⟩,
   ⟨some 4, .mov (.t 6), none⟩] (some [0, 1, 4]))
 (.ops false [
   ⟨some 7, .mov (.t 0), none⟩,
   ⟨some 8, .mov (.t 4), none⟩,
   ⟨some 9, .mov (.t 4), none⟩,
   ⟨some 10, .cvu (.t 9), none⟩,
   ⟨some 11, .call 65 [.t 10], none⟩,
   ⟨some 12, .mov (.t 1), none⟩,
   ⟨some 13, .calli 64 [.t 7, .k (.int 0), .t 8, .t 11, .t 12], none⟩] (some [])))

theorem m59 : fmatch Tryd.prog Tryd.f59 2 [] v59 = true := by kernel_rfl

/-- steening/buckets.sorted$1 -/
def v60 : VC :=
 (.seq
 (.ops false [
   ⟨some 4, .mov (.k (.int 0)), none⟩] (some [0, 1]))
 (.seq
 (.ops false [
   ⟨some 5, .mov (.t 1), none⟩,
   ⟨some 6, .mov (.t 0), none⟩,
   ⟨some 7, .call 58 [.t 5, .t 6], none⟩,
   ⟨some 4, .mov (.t 7), none⟩] (some [4]))
 .ret))

theorem m60 : fmatch Tryd.prog Tryd.f60 2 [.tmp 4] v60 = true := by kernel_rfl

/-- (*steening/buckets.town).arcs -/
def v61 : VC :=
 (.seq
 (.ops false [
   ⟨some 2, .box 4002 1 (.t 0), none⟩] (some [1, 2]))
 (.seq
 (.ops true [
   ⟨some 17, .load 1 false (.t 2) [], none⟩,
   ⟨some 18, .nilck (.t 17), none⟩,
   ⟨some 19, .fld 0 (.t 18), none⟩,
   ⟨some 20, .load 3 true (.t 19) [], none⟩,
   ⟨some 21, .load 1 false (.t 2) [], none⟩,
   ⟨some 22, .nilck (.t 21), none⟩,
   ⟨some 23, .fld 6 (.t 22), none⟩,
   ⟨some 24, .load 1 false (.t 23) [], none⟩,
   ⟨some 25, .call 51 [.t 20, .t 24], none⟩,
   ⟨some 16, .mov (.t 25), none⟩,
   ⟨some 26, .ext (.t 16) 0, none⟩,
   ⟨some 27, .ext (.t 16) 1, none⟩,
   ⟨some 4, .mov (.t 26), none⟩,
   ⟨some 5, .mov (.t 27), none⟩] (some [1, 2, 4, 5]))
 (.seq
 (.ops false [
   ⟨some 28, .load 1 false (.t 2) [], none⟩,
   ⟨some 29, .nilck (.t 28), none⟩,
   ⟨some 30, .fld 0 (.t 29), none⟩,
   ⟨some 31, .fld 1 (.t 30), none⟩,
   ⟨some 32, .load 1 false (.t 31) [], none⟩,
   ⟨some 33, .len (.t 32), none⟩,
   ⟨some 6, .mov (.t 33), none⟩] (some [1, 2, 4, 5, 6]))
 (.seq
 (.ops false [
   ⟨some 34, .mov (.t 6), none⟩,
   ⟨some 35, .load 1 false (.t 2) [], none⟩,
   ⟨some 36, .nilck (.t 35), none⟩,
   ⟨some 37, .fld 0 (.t 36), none⟩,
   ⟨some 38, .fld 0 (.t 37), none⟩,
   ⟨some 39, .load 1 false (.t 38) [], none⟩,
   ⟨some 40, .len (.t 39), none⟩,
   ⟨some 41, .bin .add (.t 34) (.t 40), none⟩,
   ⟨some 7, .mov (.t 41), none⟩] (some [1, 2, 4, 5, 6, 7]))
 (.seq
 (.ops false [
   ⟨some 42, .mov (.t 7), none⟩,
   ⟨some 43, .bin .add (.t 42) (.k (.int 1)), none⟩,
   ⟨some 8, .mov (.t 43), none⟩] (some [1, 2, 4, 5, 6, 7, 8]))
 (.seq
 (.ops false [
   ⟨some 44, .mkf 66 [.t 2], none⟩,
   ⟨some 9, .mov (.t 44), none⟩] (some [1, 2, 4, 5, 6, 7, 8, 9]))
 (.seq
 (.seq
 (.ops false [
   ⟨some 45, .mov (.t 5), none⟩,
   ⟨some 46, .len (.t 45), none⟩,
   ⟨some 47, .mov (.k (.int 0)), none⟩] (some [1, 2, 4, 6, 7, 8, 9, 45, 46, 47]))
 (.block 0
  (.loop
   (.seq
   (.ops false [
     ⟨some 48, .bin .lss (.t 47) (.t 46), none⟩] (some [1, 2, 4, 6, 7, 8, 9, 45, 46, 47, 48]))
   (.seq
   (.cond (.t 48)
    .skip
    (.exit 0))
   (.seq
   (.block 1
    (.seq
    (.ops false [
      ⟨some 49, .mov (.t 47), none⟩,
      ⟨some 50, .idx 1 (.t 45) (.t 47), none⟩,
      ⟨some 51, .load 1 false (.t 50) [], none⟩,
      ⟨some 10, .mov (.t 49), none⟩,
      ⟨some 11, .mov (.t 51), none⟩] (some [1, 2, 4, 6, 7, 8, 9, 10, 11, 45, 46, 47]))
    (.seq
    (.ops false [
      ⟨some 52, .mov (.t 11), none⟩,
      ⟨some 53, .bin .gtr (.t 52) (.k (.int 0)), none⟩,
      ⟨some 54, .mov (.t 53), none⟩,
      ⟨some 55, .mov (.t 1), some (54, true)⟩,
      ⟨some 56, .mov (.t 7), some (54, true)⟩,
      ⟨some 57, .mov (.t 10), some (54, true)⟩,
      ⟨some 58, .mov (.t 9), some (54, true)⟩,
      ⟨some 59, .mov (.t 10), some (54, true)⟩,
      ⟨some 60, .load 1 false (.t 2) [], some (54, true)⟩,
      ⟨some 61, .nilck (.t 60), some (54, true)⟩,
      ⟨some 62, .fld 3 (.t 61), some (54, true)⟩,
      ⟨some 63, .fld 1 (.t 62), some (54, true)⟩,
      ⟨some 64, .load 1 false (.t 63) [], some (54, true)⟩,
      ⟨some 65, .bin .eql (.t 59) (.t 64), some (54, true)⟩,
      ⟨some 66, .callv (.t 58) [.t 65], some (54, true)⟩,
      ⟨some 67, .neg (.t 66), some (54, true)⟩,
      ⟨some 68, .build [.int 0, .int 0, .int 0, .int 0, .int 0] [(0, 1, .t 56), (1, 1, .t 57), (2, 1, .t 67), (3, 1, .k (.int (-1))), (4, 1, .k (.int 0))], some (54, true)⟩,
      ⟨some 69, .yield (.t 55) [.t 68], some (54, true)⟩,
      ⟨some 70, .not (.t 69), some (54, true)⟩,
      ⟨some 71, .pick (.t 54) (.t 70) (.k (.bool false)), none⟩,
      ⟨some 72, .mov (.t 71), none⟩,
      ⟨some 73, .mov (.t 11), some (72, false)⟩,
      ⟨some 74, .load 1 false (.t 2) [], some (72, false)⟩,
      ⟨some 75, .nilck (.t 74), some (72, false)⟩,
      ⟨some 76, .fld 0 (.t 75), some (72, false)⟩,
      ⟨some 77, .fld 1 (.t 76), some (72, false)⟩,
      ⟨some 78, .load 1 false (.t 77) [], some (72, false)⟩,
      ⟨some 79, .mov (.t 10), some (72, false)⟩,
      ⟨some 80, .idx 1 (.t 78) (.t 79), some (72, false)⟩,
      ⟨some 81, .load 1 false (.t 80) [], some (72, false)⟩,
      ⟨some 82, .bin .lss (.t 73) (.t 81), some (72, false)⟩,
      ⟨some 83, .mov (.t 82), some (72, false)⟩,
      ⟨some 84, .mov (.t 1), some (83, true)⟩,
      ⟨some 85, .mov (.t 10), some (83, true)⟩,
      ⟨some 86, .mov (.t 7), some (83, true)⟩,
      ⟨some 87, .mov (.t 9), some (83, true)⟩,
      ⟨some 88, .mov (.t 10), some (83, true)⟩,
      ⟨some 89, .load 1 false (.t 2) [], some (83, true)⟩,
      ⟨some 90, .nilck (.t 89), some (83, true)⟩,
      ⟨some 91, .fld 3 (.t 90), some (83, true)⟩,
      ⟨some 92, .fld 1 (.t 91), some (83, true)⟩,
      ⟨some 93, .load 1 false (.t 92) [], some (83, true)⟩,
      ⟨some 94, .bin .eql (.t 88) (.t 93), some (83, true)⟩,
      ⟨some 95, .callv (.t 87) [.t 94], some (83, true)⟩,
      ⟨some 96, .build [.int 0, .int 0, .int 0, .int 0, .int 0] [(0, 1, .t 85), (1, 1, .t 86), (2, 1, .t 95), (3, 1, .k (.int (-1))), (4, 1, .k (.int 0))], some (83, true)⟩,
      ⟨some 97, .yield (.t 84) [.t 96], some (83, true)⟩,
      ⟨some 98, .not (.t 97), some (83, true)⟩,
      ⟨some 99, .pick (.t 83) (.t 98) (.k (.bool false)), some (72, false)⟩,
      ⟨some 100, .pick (.t 72) (.k (.bool true)) (.t 99), none⟩] (some [1, 2, 4, 6, 7, 8, 9, 45, 46, 47, 100]))
    (.cond (.t 100)
     .ret
     .skip))))
   (.ops false [
     ⟨some 101, .bin .add (.t 47) (.k (.int 1)), none⟩,
     ⟨some 47, .mov (.t 101), none⟩] (some [1, 2, 4, 6, 7, 8, 9, 45, 46, 47]))))))))
 (.seq
 (.seq
 (.ops false [
   ⟨some 102, .mov (.t 4), none⟩,
   ⟨some 103, .len (.t 102), none⟩,
   ⟨some 104, .mov (.k (.int 0)), none⟩] (some [1, 2, 6, 8, 9, 102, 103, 104]))
 (.block 2
  (.loop
   (.seq
   (.ops false [
     ⟨some 105, .bin .lss (.t 104) (.t 103), none⟩] (some [1, 2, 6, 8, 9, 102, 103, 104, 105]))
   (.seq
   (.cond (.t 105)
    .skip
    (.exit 2))
   (.seq
   (.block 3
    (.seq
    (.ops false [
      ⟨some 106, .mov (.t 104), none⟩,
      ⟨some 107, .idx 1 (.t 102) (.t 104), none⟩,
      ⟨some 108, .load 1 false (.t 107) [], none⟩,
      ⟨some 12, .mov (.t 106), none⟩,
      ⟨some 13, .mov (.t 108), none⟩] (some [1, 2, 6, 8, 9, 12, 13, 102, 103, 104]))
    (.seq
    (.opsB2 [
      ⟨some 109, .mov (.t 13), none⟩,
      ⟨some 110, .bin .gtr (.t 109) (.k (.int 0)), none⟩,
      ⟨some 111, .mov (.t 110), none⟩,
      ⟨some 112, .mov (.t 1), some (111, true)⟩,
      ⟨some 113, .mov (.t 6), some (111, true)⟩,
      ⟨some 114, .mov (.t 12), some (111, true)⟩,
      ⟨some 115, .bin .add (.t 113) (.t 114), some (111, true)⟩,
      ⟨some 116, .mov (.t 8), some (111, true)⟩,
      ⟨some 117, .mov (.t 13), some (111, true)⟩,
      ⟨some 118, .bin .sub (.t 117) (.k (.int 1)), some (111, true)⟩,
      ⟨some 119, .call 67 [.t 118], some (111, true)⟩,
      ⟨some 120, .mov (.t 13), some (111, true)⟩,
      ⟨some 121, .call 67 [.t 120], some (111, true)⟩,
      ⟨some 122, .bin .sub (.t 119) (.t 121), some (111, true)⟩,
      ⟨some 123, .mov (.t 9), some (111, true)⟩,
      ⟨some 124, .mov (.t 12), some (111, true)⟩,
      ⟨some 125, .load 1 false (.t 2) [], some (111, true)⟩,
      ⟨some 126, .nilck (.t 125), some (111, true)⟩,
      ⟨some 127, .fld 3 (.t 126), some (111, true)⟩,
      ⟨some 128, .fld 0 (.t 127), some (111, true)⟩,
      ⟨some 129, .load 1 false (.t 128) [], some (111, true)⟩,
      ⟨some 130, .bin .eql (.t 124) (.t 129), some (111, true)⟩,
      ⟨some 131, .callv (.t 123) [.t 130], some (111, true)⟩,
      ⟨some 132, .bin .sub (.t 122) (.t 131), some (111, true)⟩,
      ⟨some 133, .build [.int 0, .int 0, .int 0, .int 0, .int 0] [(0, 1, .t 115), (1, 1, .t 116), (2, 1, .t 132), (3, 1, .k (.int (-1))), (4, 1, .k (.int 0))], some (111, true)⟩]
      ⟨some 134, .yield (.t 112) [.t 133], some (111, true)⟩
      [
      ⟨some 135, .not (.t 134), some (111, true)⟩,
      ⟨some 136, .pick (.t 111) (.t 135) (.k (.bool false)), none⟩,
      ⟨some 137, .mov (.t 136), none⟩,
      ⟨some 138, .mov (.t 13), some (137, false)⟩,
      ⟨some 139, .load 1 false (.t 2) [], some (137, false)⟩,
      ⟨some 140, .nilck (.t 139), some (137, false)⟩,
      ⟨some 141, .fld 0 (.t 140), some (137, false)⟩,
      ⟨some 142, .fld 0 (.t 141), some (137, false)⟩,
      ⟨some 143, .load 1 false (.t 142) [], some (137, false)⟩,
      ⟨some 144, .mov (.t 12), some (137, false)⟩,
      ⟨some 145, .idx 1 (.t 143) (.t 144), some (137, false)⟩,
      ⟨some 146, .load 1 false (.t 145) [], some (137, false)⟩,
      ⟨some 147, .bin .lss (.t 138) (.t 146), some (137, false)⟩,
      ⟨some 148, .mov (.t 147), some (137, false)⟩,
      ⟨some 149, .mov (.t 1), some (148, true)⟩,
      ⟨some 150, .mov (.t 8), some (148, true)⟩,
      ⟨some 151, .mov (.t 6), some (148, true)⟩,
      ⟨some 152, .mov (.t 12), some (148, true)⟩,
      ⟨some 153, .bin .add (.t 151) (.t 152), some (148, true)⟩,
      ⟨some 154, .mov (.t 13), some (148, true)⟩,
      ⟨some 155, .bin .add (.t 154) (.k (.int 1)), some (148, true)⟩,
      ⟨some 156, .call 67 [.t 155], some (148, true)⟩,
      ⟨some 157, .mov (.t 13), some (148, true)⟩,
      ⟨some 158, .call 67 [.t 157], some (148, true)⟩,
      ⟨some 159, .bin .sub (.t 156) (.t 158), some (148, true)⟩,
      ⟨some 160, .mov (.t 9), some (148, true)⟩,
      ⟨some 161, .mov (.t 12), some (148, true)⟩,
      ⟨some 162, .load 1 false (.t 2) [], some (148, true)⟩,
      ⟨some 163, .nilck (.t 162), some (148, true)⟩,
      ⟨some 164, .fld 3 (.t 163), some (148, true)⟩,
      ⟨some 165, .fld 0 (.t 164), some (148, true)⟩,
      ⟨some 166, .load 1 false (.t 165) [], some (148, true)⟩,
      ⟨some 167, .bin .eql (.t 161) (.t 166), some (148, true)⟩,
      ⟨some 168, .callv (.t 160) [.t 167], some (148, true)⟩,
      ⟨some 169, .bin .add (.t 159) (.t 168), some (148, true)⟩,
      ⟨some 170, .build [.int 0, .int 0, .int 0, .int 0, .int 0] [(0, 1, .t 150), (1, 1, .t 153), (2, 1, .t 169), (3, 1, .k (.int (-1))), (4, 1, .k (.int 0))], some (148, true)⟩]
      ⟨some 171, .yield (.t 149) [.t 170], some (148, true)⟩
      [
      ⟨some 172, .not (.t 171), some (148, true)⟩,
      ⟨some 173, .pick (.t 148) (.t 172) (.k (.bool false)), some (137, false)⟩,
      ⟨some 174, .pick (.t 137) (.k (.bool true)) (.t 173), none⟩] (some [1, 2, 6, 8, 9, 102, 103, 104, 174]))
    (.cond (.t 174)
     .ret
     .skip))))
   (.ops false [
     ⟨some 175, .bin .add (.t 104) (.k (.int 1)), none⟩,
     ⟨some 104, .mov (.t 175), none⟩] (some [1, 2, 6, 8, 9, 102, 103, 104]))))))))
 (.seq
 (.ops false [
   ⟨some 176, .load 1 false (.t 2) [], none⟩,
   ⟨some 177, .nilck (.t 176), none⟩,
   ⟨some 178, .fld 0 (.t 177), none⟩,
   ⟨some 179, .fld 2 (.t 178), none⟩,
   ⟨some 180, .load 1 false (.t 179) [], none⟩,
   ⟨some 181, .len (.t 180), none⟩,
   ⟨some 182, .mov (.k (.int 0)), none⟩] (some [1, 2, 6, 180, 181, 182]))
 (.block 4
  (.loop
   (.seq
   (.ops false [
     ⟨some 183, .bin .lss (.t 182) (.t 181), none⟩] (some [1, 2, 6, 180, 181, 182, 183]))
   (.seq
   (.cond (.t 183)
    .skip
    (.exit 4))
   (.seq
   (.block 5
    (.seq
    (.ops false [
      ⟨some 184, .mov (.t 182), none⟩,
      ⟨some 185, .idx 2 (.t 180) (.t 182), none⟩,
      ⟨some 186, .load 2 true (.t 185) [], none⟩,
      ⟨some 15, .alloc 4015 [.int 0, .int 0], none⟩,
      ⟨some 14, .mov (.t 184), none⟩,
      ⟨none, .store 2 (.t 15) (.t 186) (some 4015), none⟩] (some [1, 2, 6, 14, 15, 180, 181, 182]))
    (.seq
    (.ops false [
      ⟨some 187, .mov (.t 1), none⟩,
      ⟨some 188, .fld 1 (.t 15), none⟩,
      ⟨some 189, .load 1 false (.t 188) [], none⟩,
      ⟨some 190, .mov (.t 6), none⟩,
      ⟨some 191, .fld 0 (.t 15), none⟩,
      ⟨some 192, .load 1 false (.t 191) [], none⟩,
      ⟨some 193, .bin .add (.t 190) (.t 192), none⟩,
      ⟨some 194, .mov (.t 14), none⟩,
      ⟨some 195, .build [.int 0, .int 0, .int 0, .int 0, .int 0] [(0, 1, .t 189), (1, 1, .t 193), (2, 1, .k (.int 0)), (3, 1, .t 194), (4, 1, .k (.int 1))], none⟩,
      ⟨some 196, .yield (.t 187) [.t 195], none⟩,
      ⟨some 197, .not (.t 196), none⟩,
      ⟨some 198, .mov (.t 197), none⟩,
      ⟨some 199, .load 1 false (.t 2) [], some (198, false)⟩,
      ⟨some 200, .nilck (.t 199), some (198, false)⟩,
      ⟨some 201, .fld 6 (.t 200), some (198, false)⟩,
      ⟨some 202, .load 1 false (.t 201) [], some (198, false)⟩,
      ⟨some 203, .mov (.t 14), some (198, false)⟩,
      ⟨some 204, .idx 1 (.t 202) (.t 203), some (198, false)⟩,
      ⟨some 205, .load 1 false (.t 204) [], some (198, false)⟩,
      ⟨some 206, .bin .gtr (.t 205) (.k (.int 0)), some (198, false)⟩,
      ⟨some 207, .mov (.t 206), some (198, false)⟩,
      ⟨some 208, .mov (.t 1), some (207, true)⟩,
      ⟨some 209, .mov (.t 6), some (207, true)⟩,
      ⟨some 210, .fld 0 (.t 15), some (207, true)⟩,
      ⟨some 211, .load 1 false (.t 210) [], some (207, true)⟩,
      ⟨some 212, .bin .add (.t 209) (.t 211), some (207, true)⟩,
      ⟨some 213, .fld 1 (.t 15), some (207, true)⟩,
      ⟨some 214, .load 1 false (.t 213) [], some (207, true)⟩,
      ⟨some 215, .mov (.t 14), some (207, true)⟩,
      ⟨some 216, .build [.int 0, .int 0, .int 0, .int 0, .int 0] [(0, 1, .t 212), (1, 1, .t 214), (2, 1, .k (.int 0)), (3, 1, .t 215), (4, 1, .k (.int (-1)))], some (207, true)⟩,
      ⟨some 217, .yield (.t 208) [.t 216], some (207, true)⟩,
      ⟨some 218, .not (.t 217), some (207, true)⟩,
      ⟨some 219, .pick (.t 207) (.t 218) (.k (.bool false)), some (198, false)⟩,
      ⟨some 220, .pick (.t 198) (.k (.bool true)) (.t 219), none⟩] (some [1, 2, 6, 180, 181, 182, 220]))
    (.cond (.t 220)
     .ret
     .skip))))
   (.ops false [
     ⟨some 221, .bin .add (.t 182) (.k (.int 1)), none⟩,
     ⟨some 182, .mov (.t 221), none⟩] (some [1, 2, 6, 180, 181, 182]))))))))))))))))

theorem m61 : fmatch Tryd.prog Tryd.f61 2 [] v61 = true := by kernel_rfl

/-- steening/mouths.are$1 -/
def v62 : VC :=
 (.seq
 (.ops false [
   ⟨some 3, .mov (.k (.bool false)), none⟩] (some [0, 1]))
 (.seq
 (.ops false [
   ⟨some 4, .mov (.t 0), none⟩,
   ⟨some 5, .load 1 false (.t 1) [], none⟩,
   ⟨some 6, .call 29 [.t 4, .k (.int 0), .t 5], none⟩,
   ⟨some 7, .not (.t 6), none⟩,
   ⟨some 3, .mov (.t 7), none⟩] (some [3]))
 .ret))

theorem m62 : fmatch Tryd.prog Tryd.f62 2 [.tmp 3] v62 = true := by kernel_rfl

/-- cmp.isNaN[int] -/
def v63 : VC :=
 (.seq
 (.ops false [
   ⟨some 2, .mov (.k (.bool false)), none⟩] (some [0]))
 (.seq
 (.ops false [
   ⟨some 3, .mov (.t 0), none⟩,
   ⟨some 4, .mov (.t 0), none⟩,
   ⟨some 5, .bin .neq (.t 3) (.t 4), none⟩,
   ⟨some 2, .mov (.t 5), none⟩] (some [2]))
 .ret))

theorem m63 : fmatch Tryd.prog Tryd.f63 1 [.tmp 2] v63 = true := by kernel_rfl

/-- slices.pdqsortCmpFunc[int] -/
def v64 : VC :=
 (.seq
 (.ops false [
   ⟨some 10, .mov (.k (.bool true)), none⟩] (some [0, 1, 2, 3, 4, 10]))
 (.seq
 (.ops false [
   ⟨some 11, .mov (.k (.bool true)), none⟩] (some [0, 1, 2, 3, 4, 10, 11]))
 (.block 0
  (.loop
   (.block 1
    (.seq
    (.ops false [
      ⟨some 21, .mov (.t 2), none⟩,
      ⟨some 22, .mov (.t 1), none⟩,
      ⟨some 23, .bin .sub (.t 21) (.t 22), none⟩,
      ⟨some 12, .mov (.t 23), none⟩] (some [0, 1, 2, 3, 4, 10, 11, 12]))
    (.seq
    (.seq
    (.ops false [
      ⟨some 24, .mov (.t 12), none⟩,
      ⟨some 25, .bin .leq (.t 24) (.k (.int 12)), none⟩] (some [0, 1, 2, 3, 4, 10, 11, 12, 25]))
    (.cond (.t 25)
     (.seq
     (.ops false [
       ⟨some 26, .mov (.t 0), none⟩,
       ⟨some 27, .mov (.t 1), none⟩,
       ⟨some 28, .mov (.t 2), none⟩,
       ⟨some 29, .mov (.t 4), none⟩,
       ⟨some 30, .calli 68 [.t 26, .t 27, .t 28, .t 29], none⟩] (some []))
     .ret)
     .skip))
    (.seq
    (.seq
    (.ops false [
      ⟨some 31, .mov (.t 3), none⟩,
      ⟨some 32, .bin .eql (.t 31) (.k (.int 0)), none⟩] (some [0, 1, 2, 3, 4, 10, 11, 12, 32]))
    (.cond (.t 32)
     (.seq
     (.ops false [
       ⟨some 33, .mov (.t 0), none⟩,
       ⟨some 34, .mov (.t 1), none⟩,
       ⟨some 35, .mov (.t 2), none⟩,
       ⟨some 36, .mov (.t 4), none⟩,
       ⟨some 37, .call 69 [.t 33, .t 34, .t 35, .t 36], none⟩] (some []))
     .ret)
     .skip))
    (.seq
    (.seq
    (.ops false [
      ⟨some 38, .mov (.t 10), none⟩,
      ⟨some 39, .not (.t 38), none⟩] (some [0, 1, 2, 3, 4, 10, 11, 12, 39]))
    (.cond (.t 39)
     (.seq
     (.ops false [
       ⟨some 40, .mov (.t 0), none⟩,
       ⟨some 41, .mov (.t 1), none⟩,
       ⟨some 42, .mov (.t 2), none⟩,
       ⟨some 43, .mov (.t 4), none⟩,
       ⟨some 44, .call 70 [.t 40, .t 41, .t 42, .t 43], none⟩] (some [0, 1, 2, 3, 4, 10, 11, 12]))
     (.ops false [
       ⟨some 45, .mov (.t 3), none⟩,
       ⟨some 46, .bin .sub (.t 45) (.k (.int 1)), none⟩,
       ⟨some 3, .mov (.t 46), none⟩] (some [0, 1, 2, 3, 4, 10, 11, 12])))
     .skip))
    (.seq
    (.ops false [
      ⟨some 48, .mov (.t 0), none⟩,
      ⟨some 49, .mov (.t 1), none⟩,
      ⟨some 50, .mov (.t 2), none⟩,
      ⟨some 51, .mov (.t 4), none⟩,
      ⟨some 52, .call 71 [.t 48, .t 49, .t 50, .t 51], none⟩,
      ⟨some 47, .mov (.t 52), none⟩,
      ⟨some 53, .ext (.t 47) 0, none⟩,
      ⟨some 54, .ext (.t 47) 1, none⟩,
      ⟨some 13, .mov (.t 53), none⟩,
      ⟨some 14, .mov (.t 54), none⟩] (some [0, 1, 2, 3, 4, 10, 11, 12, 13, 14]))
    (.seq
    (.seq
    (.ops false [
      ⟨some 55, .mov (.t 14), none⟩,
      ⟨some 56, .bin .eql (.t 55) (.k (.int 2)), none⟩] (some [0, 1, 2, 3, 4, 10, 11, 12, 13, 14, 56]))
    (.cond (.t 56)
     (.seq
     (.ops false [
       ⟨some 57, .mov (.t 0), none⟩,
       ⟨some 58, .mov (.t 1), none⟩,
       ⟨some 59, .mov (.t 2), none⟩,
       ⟨some 60, .mov (.t 4), none⟩,
       ⟨some 61, .call 72 [.t 57, .t 58, .t 59, .t 60], none⟩] (some [0, 1, 2, 3, 4, 10, 11, 12, 13]))
     (.seq
     (.ops false [
       ⟨some 62, .mov (.t 2), none⟩,
       ⟨some 63, .bin .sub (.t 62) (.k (.int 1)), none⟩,
       ⟨some 64, .mov (.t 13), none⟩,
       ⟨some 65, .mov (.t 1), none⟩,
       ⟨some 66, .bin .sub (.t 64) (.t 65), none⟩,
       ⟨some 67, .bin .sub (.t 63) (.t 66), none⟩,
       ⟨some 13, .mov (.t 67), none⟩] (some [0, 1, 2, 3, 4, 10, 11, 12, 13]))
     (.ops false [
       ⟨some 14, .mov (.k (.int 1)), none⟩] (some [0, 1, 2, 3, 4, 10, 11, 12, 13, 14]))))
     .skip))
    (.seq
    (.seq
    (.ops false [
      ⟨some 68, .mov (.t 10), none⟩,
      ⟨some 69, .mov (.t 68), none⟩,
      ⟨some 70, .mov (.t 11), some (69, true)⟩,
      ⟨some 71, .pick (.t 69) (.t 70) (.k (.bool false)), none⟩,
      ⟨some 72, .mov (.t 71), none⟩,
      ⟨some 73, .mov (.t 14), some (72, true)⟩,
      ⟨some 74, .bin .eql (.t 73) (.k (.int 1)), some (72, true)⟩,
      ⟨some 75, .pick (.t 72) (.t 74) (.k (.bool false)), none⟩] (some [0, 1, 2, 3, 4, 10, 11, 12, 13, 75]))
    (.cond (.t 75)
     (.seq
     (.ops false [
       ⟨some 76, .mov (.t 0), none⟩,
       ⟨some 77, .mov (.t 1), none⟩,
       ⟨some 78, .mov (.t 2), none⟩,
       ⟨some 79, .mov (.t 4), none⟩,
       ⟨some 80, .call 73 [.t 76, .t 77, .t 78, .t 79], none⟩] (some [0, 1, 2, 3, 4, 10, 11, 12, 13, 80]))
     (.cond (.t 80)
      .ret
      .skip))
     .skip))
    (.seq
    (.seq
    (.ops true [
      ⟨some 81, .mov (.t 1), none⟩,
      ⟨some 82, .bin .gtr (.t 81) (.k (.int 0)), none⟩,
      ⟨some 83, .mov (.t 82), none⟩,
      ⟨some 84, .mov (.t 4), some (83, true)⟩,
      ⟨some 85, .mov (.t 0), some (83, true)⟩,
      ⟨some 86, .mov (.t 1), some (83, true)⟩,
      ⟨some 87, .bin .sub (.t 86) (.k (.int 1)), some (83, true)⟩,
      ⟨some 88, .idx 1 (.t 85) (.t 87), some (83, true)⟩,
      ⟨some 89, .load 1 false (.t 88) [], some (83, true)⟩,
      ⟨some 90, .mov (.t 0), some (83, true)⟩,
      ⟨some 91, .mov (.t 13), some (83, true)⟩,
      ⟨some 92, .idx 1 (.t 90) (.t 91), some (83, true)⟩,
      ⟨some 93, .load 1 false (.t 92) [], some (83, true)⟩,
      ⟨some 94, .callv (.t 84) [.t 89, .t 93], some (83, true)⟩,
      ⟨some 95, .bin .lss (.t 94) (.k (.int 0)), some (83, true)⟩,
      ⟨some 96, .not (.t 95), some (83, true)⟩,
      ⟨some 97, .pick (.t 83) (.t 96) (.k (.bool false)), none⟩] (some [0, 1, 2, 3, 4, 10, 11, 12, 13, 97]))
    (.cond (.t 97)
     (.seq
     (.ops false [
       ⟨some 98, .mov (.t 0), none⟩,
       ⟨some 99, .mov (.t 1), none⟩,
       ⟨some 100, .mov (.t 2), none⟩,
       ⟨some 101, .mov (.t 13), none⟩,
       ⟨some 102, .mov (.t 4), none⟩,
       ⟨some 103, .call 74 [.t 98, .t 99, .t 100, .t 101, .t 102], none⟩,
       ⟨some 15, .mov (.t 103), none⟩] (some [0, 2, 3, 4, 10, 11, 15]))
     (.seq
     (.ops false [
       ⟨some 104, .mov (.t 15), none⟩,
       ⟨some 1, .mov (.t 104), none⟩] (some [0, 1, 2, 3, 4, 10, 11]))
     (.exit 1)))
     .skip))
    (.seq
    (.ops false [
      ⟨some 106, .mov (.t 0), none⟩,
      ⟨some 107, .mov (.t 1), none⟩,
      ⟨some 108, .mov (.t 2), none⟩,
      ⟨some 109, .mov (.t 13), none⟩,
      ⟨some 110, .mov (.t 4), none⟩,
      ⟨some 111, .call 75 [.t 106, .t 107, .t 108, .t 109, .t 110], none⟩,
      ⟨some 105, .mov (.t 111), none⟩,
      ⟨some 112, .ext (.t 105) 0, none⟩,
      ⟨some 113, .ext (.t 105) 1, none⟩,
      ⟨some 16, .mov (.t 112), none⟩,
      ⟨some 17, .mov (.t 113), none⟩] (some [0, 1, 2, 3, 4, 12, 16, 17]))
    (.seq
    (.ops false [
      ⟨some 114, .mov (.t 17), none⟩,
      ⟨some 11, .mov (.t 114), none⟩] (some [0, 1, 2, 3, 4, 11, 12, 16]))
    (.seq
    (.ops false [
      ⟨some 115, .mov (.t 16), none⟩,
      ⟨some 116, .mov (.t 1), none⟩,
      ⟨some 117, .bin .sub (.t 115) (.t 116), none⟩,
      ⟨some 118, .mov (.t 2), none⟩,
      ⟨some 119, .mov (.t 16), none⟩,
      ⟨some 120, .bin .sub (.t 118) (.t 119), none⟩,
      ⟨some 18, .mov (.t 117), none⟩,
      ⟨some 19, .mov (.t 120), none⟩] (some [0, 1, 2, 3, 4, 11, 12, 16, 18, 19]))
    (.seq
    (.ops false [
      ⟨some 121, .mov (.t 12), none⟩,
      ⟨some 122, .bin .quo (.t 121) (.k (.int 8)), none⟩,
      ⟨some 20, .mov (.t 122), none⟩] (some [0, 1, 2, 3, 4, 11, 16, 18, 19, 20]))
    (.seq
    (.ops false [
      ⟨some 123, .mov (.t 18), none⟩,
      ⟨some 124, .mov (.t 19), none⟩,
      ⟨some 125, .bin .lss (.t 123) (.t 124), none⟩] (some [0, 1, 2, 3, 4, 11, 16, 18, 19, 20, 125]))
    (.cond (.t 125)
     (.seq
     (.ops false [
       ⟨some 126, .mov (.t 18), none⟩,
       ⟨some 127, .mov (.t 20), none⟩,
       ⟨some 128, .bin .geq (.t 126) (.t 127), none⟩,
       ⟨some 10, .mov (.t 128), none⟩] (some [0, 1, 2, 3, 4, 10, 11, 16]))
     (.seq
     (.ops false [
       ⟨some 129, .mov (.t 0), none⟩,
       ⟨some 130, .mov (.t 1), none⟩,
       ⟨some 131, .mov (.t 16), none⟩,
       ⟨some 132, .mov (.t 3), none⟩,
       ⟨some 133, .mov (.t 4), none⟩,
       ⟨some 134, .call 64 [.t 129, .t 130, .t 131, .t 132, .t 133], none⟩] (some [0, 2, 3, 4, 10, 11, 16]))
     (.ops false [
       ⟨some 135, .mov (.t 16), none⟩,
       ⟨some 136, .bin .add (.t 135) (.k (.int 1)), none⟩,
       ⟨some 1, .mov (.t 136), none⟩] (some [0, 1, 2, 3, 4, 10, 11]))))
     (.seq
     (.ops false [
       ⟨some 137, .mov (.t 19), none⟩,
       ⟨some 138, .mov (.t 20), none⟩,
       ⟨some 139, .bin .geq (.t 137) (.t 138), none⟩,
       ⟨some 10, .mov (.t 139), none⟩] (some [0, 1, 2, 3, 4, 10, 11, 16]))
     (.seq
     (.ops false [
       ⟨some 140, .mov (.t 0), none⟩,
       ⟨some 141, .mov (.t 16), none⟩,
       ⟨some 142, .bin .add (.t 141) (.k (.int 1)), none⟩,
       ⟨some 143, .mov (.t 2), none⟩,
       ⟨some 144, .mov (.t 3), none⟩,
       ⟨some 145, .mov (.t 4), none⟩,
       ⟨some 146, .call 64 [.t 140, .t 142, .t 143, .t 144, .t 145], none⟩] (some [0, 1, 3, 4, 10, 11, 16]))
     (.ops false [
       ⟨some 147, .mov (.t 16), none⟩,
       ⟨some 2, .mov (.t 147), none⟩] (some [0, 1, 2, 3, 4, 10, 11])))))))))))))))))))))))

theorem m64 : fmatch Tryd.prog Tryd.f64 5 [] v64 = true := by kernel_rfl

/-- (*steening/buckets.town).arcs$1 -/
def v66 : VC :=
 (.seq
 (.ops false [
   ⟨some 3, .mov (.k (.int 0)), none⟩] (some [0, 1]))
 (.seq
 (.seq
 (.ops false [
   ⟨some 4, .mov (.t 0), none⟩] (some [1, 4]))
 (.cond (.t 4)
  (.seq
  (.ops false [
    ⟨some 5, .load 1 false (.t 1) [], none⟩,
    ⟨some 6, .nilck (.t 5), none⟩,
    ⟨some 7, .fld 3 (.t 6), none⟩,
    ⟨some 8, .fld 2 (.t 7), none⟩,
    ⟨some 9, .load 1 false (.t 8) [], none⟩,
    ⟨some 3, .mov (.t 9), none⟩] (some [3]))
  .ret)
  .skip))
 (.seq
 (.ops false [
   ⟨some 3, .mov (.k (.int 0)), none⟩] (some [3]))
 .ret)))

theorem m66 : fmatch Tryd.prog Tryd.f66 2 [.tmp 3] v66 = true := by kernel_rfl

/-- steening/buckets.dear -/
def v67 : VC :=
 (.seq
 (.ops false [
   ⟨some 2, .mov (.k (.int 0)), none⟩] (some [0]))
 (.seq
 (.ops false [
   ⟨some 3, .mov (.k (.int 1000)), none⟩] (some [0, 3]))
 (.seq
 (.seq
 (.ops false [
   ⟨some 4, .mov (.t 0), none⟩,
   ⟨some 5, .mov (.k (.int 0)), none⟩] (some [3, 4, 5]))
 (.block 0
  (.loop
   (.seq
   (.ops false [
     ⟨some 6, .bin .lss (.t 5) (.t 4), none⟩] (some [3, 4, 5, 6]))
   (.seq
   (.cond (.t 6)
    .skip
    (.exit 0))
   (.seq
   (.block 1
    (.ops false [
      ⟨some 7, .mov (.t 3), none⟩,
      ⟨some 8, .bin .mul (.t 7) (.k (.int 7)), none⟩,
      ⟨some 3, .mov (.t 8), none⟩] (some [3, 4, 5])))
   (.ops false [
     ⟨some 9, .bin .add (.t 5) (.k (.int 1)), none⟩,
     ⟨some 5, .mov (.t 9), none⟩] (some [3, 4, 5]))))))))
 (.seq
 (.ops false [
   ⟨some 10, .mov (.t 3), none⟩,
   ⟨some 2, .mov (.t 10), none⟩] (some [2]))
 .ret))))

theorem m67 : fmatch Tryd.prog Tryd.f67 1 [.tmp 2] v67 = true := by kernel_rfl

/-- slices.insertionSortCmpFunc[int] -/
def v68 : VC :=
 (.seq
 (.ops false [
   ⟨some 10, .mov (.t 1), none⟩,
   ⟨some 11, .bin .add (.t 10) (.k (.int 1)), none⟩,
   ⟨some 8, .mov (.t 11), none⟩] (some [0, 1, 2, 3, 8]))
 (.block 0
  (.loop
   (.seq
   (.seq
   (.ops false [
     ⟨some 12, .mov (.t 8), none⟩,
     ⟨some 13, .mov (.t 2), none⟩,
     ⟨some 14, .bin .lss (.t 12) (.t 13), none⟩] (some [0, 1, 2, 3, 8, 14]))
   (.cond (.t 14)
    .skip
    (.exit 0)))
   (.seq
   (.block 1
    (.seq
    (.ops false [
      ⟨some 17, .mov (.t 8), none⟩,
      ⟨some 9, .mov (.t 17), none⟩] (some [0, 1, 2, 3, 8, 9]))
    (.block 2
     (.loop
      (.seq
      (.seq
      (.ops true [
        ⟨some 18, .mov (.t 9), none⟩,
        ⟨some 19, .mov (.t 1), none⟩,
        ⟨some 20, .bin .gtr (.t 18) (.t 19), none⟩,
        ⟨some 21, .mov (.t 20), none⟩,
        ⟨some 22, .mov (.t 3), some (21, true)⟩,
        ⟨some 23, .mov (.t 0), some (21, true)⟩,
        ⟨some 24, .mov (.t 9), some (21, true)⟩,
        ⟨some 25, .idx 1 (.t 23) (.t 24), some (21, true)⟩,
        ⟨some 26, .load 1 false (.t 25) [], some (21, true)⟩,
        ⟨some 27, .mov (.t 0), some (21, true)⟩,
        ⟨some 28, .mov (.t 9), some (21, true)⟩,
        ⟨some 29, .bin .sub (.t 28) (.k (.int 1)), some (21, true)⟩,
        ⟨some 30, .idx 1 (.t 27) (.t 29), some (21, true)⟩,
        ⟨some 31, .load 1 false (.t 30) [], some (21, true)⟩,
        ⟨some 32, .callv (.t 22) [.t 26, .t 31], some (21, true)⟩,
        ⟨some 33, .bin .lss (.t 32) (.k (.int 0)), some (21, true)⟩,
        ⟨some 34, .pick (.t 21) (.t 33) (.k (.bool false)), none⟩] (some [0, 1, 2, 3, 8, 9, 34]))
      (.cond (.t 34)
       .skip
       (.exit 2)))
      (.seq
      (.block 3
       (.ops true [
         ⟨some 37, .mov (.t 0), none⟩,
         ⟨some 38, .mov (.t 9), none⟩,
         ⟨some 39, .mov (.t 0), none⟩,
         ⟨some 40, .mov (.t 9), none⟩,
         ⟨some 41, .bin .sub (.t 40) (.k (.int 1)), none⟩,
         ⟨some 42, .mov (.t 0), none⟩,
         ⟨some 43, .mov (.t 9), none⟩,
         ⟨some 44, .bin .sub (.t 43) (.k (.int 1)), none⟩,
         ⟨some 45, .idx 1 (.t 42) (.t 44), none⟩,
         ⟨some 46, .load 1 false (.t 45) [], none⟩,
         ⟨some 47, .mov (.t 0), none⟩,
         ⟨some 48, .mov (.t 9), none⟩,
         ⟨some 49, .idx 1 (.t 47) (.t 48), none⟩,
         ⟨some 50, .load 1 false (.t 49) [], none⟩,
         ⟨some 51, .idx 1 (.t 37) (.t 38), none⟩,
         ⟨none, .store 1 (.t 51) (.t 46) none, none⟩,
         ⟨some 52, .idx 1 (.t 39) (.t 41), none⟩,
         ⟨none, .store 1 (.t 52) (.t 50) none, none⟩] (some [0, 1, 2, 3, 8, 9])))
      (.ops false [
        ⟨some 35, .mov (.t 9), none⟩,
        ⟨some 36, .bin .sub (.t 35) (.k (.int 1)), none⟩,
        ⟨some 9, .mov (.t 36), none⟩] (some [0, 1, 2, 3, 8, 9]))))))))
   (.ops false [
     ⟨some 15, .mov (.t 8), none⟩,
     ⟨some 16, .bin .add (.t 15) (.k (.int 1)), none⟩,
     ⟨some 8, .mov (.t 16), none⟩] (some [0, 1, 2, 3, 8])))))))

theorem m68 : fmatch Tryd.prog Tryd.f68 4 [] v68 = true := by kernel_rfl

/-- slices.Clone[[]int,int] -/
def v36g (fm : Nat) : VC :=
 (.seq
 (.ops false [
   ⟨some 2, .nils 2 1, none⟩] (some [0]))
 (.seq
 (.seq
 (.ops false [
   ⟨some 3, .mov (.t 0), none⟩,
   ⟨some 4, .nile (.t 3), none⟩] (some [0, 4]))
 (.cond (.t 4)
  (.seq
  (.ops false [
    ⟨some 2, .nils 501 1, none⟩] (some [2]))
  .ret)
  .skip))
 (.seq
 (.ops false [
   ⟨some 5, .bslice 1 [], none⟩,
   ⟨some 6, .mov (.t 0), none⟩,
   ⟨some 7, .appG fm none 1 8 false (.t 5) (.t 6), none⟩,
   ⟨some 2, .mov (.t 7), none⟩] (some [2]))
 .ret)))

theorem m36g (fm : Nat) : fmatch Tryd.prog Tryd.f36 1 [.tmp 2] (v36g fm) = true := by kernel_rfl

/-- steening/buckets.left -/
def v51i (b1 b2 : List (Nat × Nat × BX)) : VC :=
 (.seq
 (.ops false [
   ⟨some 2, .box 6002 3 (.t 0), none⟩,
   ⟨some 4, .nils 6004 1, none⟩,
   ⟨some 5, .nils 6005 1, none⟩] (some [1, 2]))
 (.seq
 (.ops true [
   ⟨some 8, .fld 0 (.t 2), none⟩,
   ⟨some 9, .load 1 false (.t 8) [1048576], none⟩,
   ⟨some 10, .calls 36 1 [.t 9] b1, none⟩,
   ⟨some 11, .fld 1 (.t 2), none⟩,
   ⟨some 12, .load 1 false (.t 11) [1048576], none⟩,
   ⟨some 13, .calls 36 2 [.t 12] b2, none⟩,
   ⟨some 4, .mov (.t 10), none⟩,
   ⟨some 5, .mov (.t 13), none⟩] (some [1, 2, 4, 5]))
 (.seq
 (.seq
 (.ops false [
   ⟨some 14, .mov (.t 1), none⟩,
   ⟨some 15, .len (.t 14), none⟩,
   ⟨some 16, .mov (.k (.int 0)), none⟩] (some [2, 4, 5, 14, 15, 16]))
 (.block 0
  (.loop
   (.seq
   (.ops false [
     ⟨some 17, .bin .lss (.t 16) (.t 15), none⟩] (some [2, 4, 5, 14, 15, 16, 17]))
   (.seq
   (.cond (.t 17)
    .skip
    (.exit 0))
   (.seq
   (.block 1
    (.seq
    (.ops false [
      ⟨some 18, .mov (.t 16), none⟩,
      ⟨some 19, .idx 1 (.t 14) (.t 16), none⟩,
      ⟨some 20, .load 1 false (.t 19) [], none⟩,
      ⟨some 6, .mov (.t 18), none⟩,
      ⟨some 7, .mov (.t 20), none⟩] (some [2, 4, 5, 6, 7, 14, 15, 16]))
    (.seq
    (.ops false [
      ⟨some 21, .mov (.t 4), none⟩,
      ⟨some 22, .fld 2 (.t 2), none⟩,
      ⟨some 23, .load 1 false (.t 22) [], none⟩,
      ⟨some 24, .mov (.t 6), none⟩,
      ⟨some 25, .idx 2 (.t 23) (.t 24), none⟩,
      ⟨some 26, .fld 0 (.t 25), none⟩,
      ⟨some 27, .load 1 false (.t 26) [], none⟩,
      ⟨some 28, .idx 1 (.t 21) (.t 27), none⟩,
      ⟨some 29, .load 1 false (.t 28) [], none⟩,
      ⟨some 30, .mov (.t 7), none⟩,
      ⟨some 31, .bin .sub (.t 29) (.t 30), none⟩,
      ⟨some 32, .idx 1 (.t 21) (.t 27), none⟩,
      ⟨none, .store 1 (.t 32) (.t 31) none, none⟩] (some [2, 4, 5, 6, 7, 14, 15, 16]))
    (.ops false [
      ⟨some 33, .mov (.t 5), none⟩,
      ⟨some 34, .fld 2 (.t 2), none⟩,
      ⟨some 35, .load 1 false (.t 34) [], none⟩,
      ⟨some 36, .mov (.t 6), none⟩,
      ⟨some 37, .idx 2 (.t 35) (.t 36), none⟩,
      ⟨some 38, .fld 1 (.t 37), none⟩,
      ⟨some 39, .load 1 false (.t 38) [], none⟩,
      ⟨some 40, .idx 1 (.t 33) (.t 39), none⟩,
      ⟨some 41, .load 1 false (.t 40) [], none⟩,
      ⟨some 42, .mov (.t 7), none⟩,
      ⟨some 43, .bin .sub (.t 41) (.t 42), none⟩,
      ⟨some 44, .idx 1 (.t 33) (.t 39), none⟩,
      ⟨none, .store 1 (.t 44) (.t 43) none, none⟩] (some [2, 4, 5, 14, 15, 16])))))
   (.ops false [
     ⟨some 45, .bin .add (.t 16) (.k (.int 1)), none⟩,
     ⟨some 16, .mov (.t 45), none⟩] (some [2, 4, 5, 14, 15, 16]))))))))
 (.seq
 (.ops false [
   ⟨some 46, .mov (.t 4), none⟩,
   ⟨some 47, .mov (.t 5), none⟩,
   ⟨some 4, .mov (.t 46), none⟩,
   ⟨some 5, .mov (.t 47), none⟩] (some [4, 5]))
 .ret))))

theorem m51i (b1 b2 : List (Nat × Nat × BX)) : fmatch Tryd.prog Tryd.f51 2 [.tmp 4, .tmp 5] (v51i b1 b2) = true := by kernel_rfl

end Go.Proofs.YtpangdaijhiohaaDoor


/- The compact code of the functions, and that it is theirs. -/
namespace Go.Proofs.YtpangdaijhiohaaDoor
open Go Go.V
set_option maxRecDepth 100000

/-- steening/steeningref03.Copy -/
def v26g : VC :=
 (.seq
 (.ops false [
   ⟨some 1, .box 5001 3 (.t 0), none⟩,
   ⟨some 2, .alloc 5002 [.sl 1 [] .full, .sl 1 [] .full, .sl 2 [] .full], none⟩] (some [1, 2]))
 (.seq
 (.ops true [
   ⟨some 3, .bslice 1 [], none⟩,
   ⟨some 4, .fld 0 (.t 1), none⟩,
   ⟨some 5, .load 1 false (.t 4) [5002, 1048576], none⟩,
   ⟨some 6, .appG 1 none 1 8 false (.t 3) (.t 5), none⟩,
   ⟨some 7, .bslice 1 [], none⟩,
   ⟨some 8, .fld 1 (.t 1), none⟩,
   ⟨some 9, .load 1 false (.t 8) [5002, 1048576], none⟩,
   ⟨some 10, .appG 2 none 1 8 false (.t 7) (.t 9), none⟩,
   ⟨some 11, .bslice 2 [], none⟩,
   ⟨some 12, .fld 2 (.t 1), none⟩,
   ⟨some 13, .load 1 false (.t 12) [5002, 1048576], none⟩,
   ⟨some 14, .appG 3 none 2 16 true (.t 11) (.t 13), none⟩,
   ⟨some 15, .buildW [.sl 1 [] .full, .sl 1 [] .full, .sl 2 [] .full] [(0, 1, .t 6), (1, 1, .t 10), (2, 1, .t 14)], none⟩,
   ⟨none, .store 3 (.t 2) (.t 15) (some 5002), none⟩] (some [2]))
 .ret))

theorem m26g : fmatch Tryd.prog Tryd.f26 1 [.cell 2 25] v26g = true := by kernel_rfl

/-- steening/steeningtop.poured -/
def v10g : VC :=
 (.seq
 (.ops false [
   ⟨some 3, .box 3 3 (.t 0), none⟩,
   ⟨some 4, .box 4 2 (.t 1), none⟩,
   ⟨some 6, .alloc 6 [.sl 1 [] .full, .sl 1 [] .full, .sl 2 [] .full], none⟩,
   ⟨some 7, .mov (.k (.bool false)), none⟩] (some [2, 3, 4, 6]))
 (.seq
 (.ops false [
   ⟨some 12, .load 3 true (.t 3) [], none⟩,
   ⟨some 13, .calli 26 [.t 12], none⟩,
   ⟨some 8, .alloc 8 [.sl 1 [] .full, .sl 1 [] .full, .sl 2 [] .full], none⟩,
   ⟨none, .store 3 (.t 8) (.t 13) (some 8), none⟩] (some [2, 4, 6, 8]))
 (.seq
 (.ops false [
   ⟨some 15, .load 2 true (.t 4) [], none⟩,
   ⟨some 16, .mov (.t 2), none⟩,
   ⟨some 17, .call 25 [.t 15, .t 16], none⟩,
   ⟨some 14, .mov (.t 17), none⟩,
   ⟨some 18, .ext (.t 14) 0, none⟩,
   ⟨some 19, .ext (.t 14) 1, none⟩,
   ⟨some 9, .mov (.t 18), none⟩,
   ⟨some 10, .mov (.t 19), none⟩] (some [6, 8, 9, 10]))
 (.seq
 (.seq
 (.ops false [
   ⟨some 20, .mov (.t 10), none⟩,
   ⟨some 21, .bin .neq (.t 20) (.k (.int 0)), none⟩,
   ⟨some 22, .mov (.t 21), none⟩,
   ⟨some 23, .mov (.t 9), some (22, false)⟩,
   ⟨some 24, .len (.t 23), some (22, false)⟩,
   ⟨some 25, .fld 1 (.t 8), some (22, false)⟩,
   ⟨some 26, .load 1 false (.t 25) [], some (22, false)⟩,
   ⟨some 27, .len (.t 26), some (22, false)⟩,
   ⟨some 28, .bin .neq (.t 24) (.t 27), some (22, false)⟩,
   ⟨some 29, .pick (.t 22) (.k (.bool true)) (.t 28), none⟩] (some [6, 8, 9, 29]))
 (.cond (.t 29)
  (.seq
  (.opsN false [
    ⟨some 30, .load 3 true (.t 8) [], none⟩,
    ⟨none, .store 3 (.t 6) (.t 30) (some 6), none⟩,
    ⟨some 7, .mov (.k (.bool false)), none⟩] (some [6, 7]))
  .ret)
  .skip))
 (.seq
 (.seq
 (.ops false [
   ⟨some 11, .mov (.k (.int 0)), none⟩] (some [6, 8, 9, 11]))
 (.block 0
  (.loop
   (.seq
   (.seq
   (.ops false [
     ⟨some 31, .mov (.t 11), none⟩,
     ⟨some 32, .mov (.t 9), none⟩,
     ⟨some 33, .len (.t 32), none⟩,
     ⟨some 34, .bin .lss (.t 31) (.t 33), none⟩] (some [6, 8, 9, 11, 34]))
   (.cond (.t 34)
    .skip
    (.exit 0)))
   (.seq
   (.block 1
    (.seq
    (.seq
    (.ops false [
      ⟨some 37, .mov (.t 9), none⟩,
      ⟨some 38, .mov (.t 11), none⟩,
      ⟨some 39, .idx 1 (.t 37) (.t 38), none⟩,
      ⟨some 40, .load 1 false (.t 39) [], none⟩,
      ⟨some 41, .call 8 [.t 40, .k (.int 0), .k (.int 20)], none⟩,
      ⟨some 42, .not (.t 41), none⟩] (some [6, 8, 9, 11, 42]))
    (.cond (.t 42)
     (.seq
     (.ops false [
       ⟨some 43, .load 3 true (.t 8) [], none⟩,
       ⟨none, .store 3 (.t 6) (.t 43) (some 6), none⟩,
       ⟨some 7, .mov (.k (.bool false)), none⟩] (some [6, 7]))
     .ret)
     .skip))
    (.opsN true [
      ⟨some 44, .fld 1 (.t 8), none⟩,
      ⟨some 45, .load 1 false (.t 44) [], none⟩,
      ⟨some 46, .mov (.t 11), none⟩,
      ⟨some 47, .mov (.t 9), none⟩,
      ⟨some 48, .mov (.t 11), none⟩,
      ⟨some 49, .idx 1 (.t 47) (.t 48), none⟩,
      ⟨some 50, .load 1 false (.t 49) [], none⟩,
      ⟨some 51, .idx 1 (.t 45) (.t 46), none⟩,
      ⟨none, .store 1 (.t 51) (.t 50) none, none⟩] (some [6, 8, 9, 11]))))
   (.ops false [
     ⟨some 35, .mov (.t 11), none⟩,
     ⟨some 36, .bin .add (.t 35) (.k (.int 1)), none⟩,
     ⟨some 11, .mov (.t 36), none⟩] (some [6, 8, 9, 11])))))))
 (.seq
 (.opsN false [
   ⟨some 52, .load 3 true (.t 8) [], none⟩,
   ⟨none, .store 3 (.t 6) (.t 52) (some 6), none⟩,
   ⟨some 7, .mov (.k (.bool true)), none⟩] (some [6, 7]))
 .ret))))))

theorem m10g : fmatch Tryd.prog Tryd.f10 3 [.cell 6 25, .tmp 7] v10g = true := by kernel_rfl

/-- steening/buckets.Helps -/
def v18g (b1 : List (Nat × Nat × BX)) : VC :=
 (.seq
 (.ops false [
   ⟨some 1, .box 1 3 (.t 0), none⟩,
   ⟨some 2, .nils 2 1, none⟩,
   ⟨some 3, .mov (.k (.int 0)), none⟩] (some [1]))
 (.seq
 (.seq
 (.ops false [
   ⟨some 8, .load 3 true (.t 1) [], none⟩,
   ⟨some 9, .call 32 [.t 8], none⟩,
   ⟨some 4, .mov (.t 9), none⟩] (some [1, 4]))
 (.seq
 (.ops false [
   ⟨some 10, .mov (.t 4), none⟩,
   ⟨some 11, .bin .neq (.t 10) (.k (.int 0)), none⟩] (some [1, 4, 11]))
 (.cond (.t 11)
  (.seq
  (.ops false [
    ⟨some 12, .mov (.t 4), none⟩,
    ⟨some 2, .nils 501 1, none⟩,
    ⟨some 3, .mov (.t 12), none⟩] (some [2, 3]))
  .ret)
  .skip)))
 (.seq
 (.ops false [
   ⟨some 5, .nils 5 1, none⟩] (some [1, 5]))
 (.seq
 (.seq
 (.ops false [
   ⟨some 13, .fld 1 (.t 1), none⟩,
   ⟨some 14, .load 1 false (.t 13) [], none⟩,
   ⟨some 15, .len (.t 14), none⟩,
   ⟨some 16, .mov (.k (.int 0)), none⟩] (some [1, 5, 15, 16]))
 (.block 0
  (.loop
   (.seq
   (.ops false [
     ⟨some 17, .bin .lss (.t 16) (.t 15), none⟩] (some [1, 5, 15, 16, 17]))
   (.seq
   (.cond (.t 17)
    .skip
    (.exit 0))
   (.seq
   (.block 1
    (.seq
    (.ops false [
      ⟨some 18, .mov (.t 16), none⟩,
      ⟨some 6, .mov (.t 18), none⟩] (some [1, 5, 6, 15, 16]))
    (.seq
    (.ops false [
      ⟨some 19, .load 3 true (.t 1) [], none⟩,
      ⟨some 7, .alloc 7 [.sl 1 [] .full, .sl 1 [] .full, .sl 2 [] .full], none⟩,
      ⟨none, .store 3 (.t 7) (.t 19) (some 7), none⟩] (some [1, 5, 6, 7, 15, 16]))
    (.seq
    (.ops false [
      ⟨some 20, .fld 1 (.t 1), none⟩,
      ⟨some 21, .load 1 false (.t 20) [], none⟩,
      ⟨some 22, .calls 36 1 [.t 21] b1, none⟩,
      ⟨some 23, .fld 1 (.t 7), none⟩,
      ⟨none, .store 1 (.t 23) (.t 22) (some 7), none⟩] (some [1, 5, 6, 7, 15, 16]))
    (.seq
    (.ops false [
      ⟨some 24, .fld 1 (.t 7), none⟩,
      ⟨some 25, .load 1 false (.t 24) [], none⟩,
      ⟨some 26, .mov (.t 6), none⟩,
      ⟨some 27, .idx 1 (.t 25) (.t 26), none⟩,
      ⟨some 28, .load 1 false (.t 27) [], none⟩,
      ⟨some 29, .bin .add (.t 28) (.k (.int 1)), none⟩,
      ⟨some 30, .idx 1 (.t 25) (.t 26), none⟩,
      ⟨none, .store 1 (.t 30) (.t 29) none, none⟩] (some [1, 5, 6, 7, 15, 16]))
    (.seq
    (.opsN false [
      ⟨some 31, .load 3 true (.t 7) [], none⟩,
      ⟨some 32, .load 3 true (.t 1) [], none⟩,
      ⟨some 33, .call 37 [.t 31, .t 32], none⟩] (some [1, 5, 6, 15, 16, 33]))
    (.cond (.t 33)
     (.ops false [
       ⟨some 34, .mov (.t 5), none⟩,
       ⟨some 35, .mov (.t 6), none⟩,
       ⟨some 36, .bslice 1 [.t 35], none⟩,
       ⟨some 37, .app 37 1 8 (.t 34) (.t 36), none⟩,
       ⟨some 5, .mov (.t 37), none⟩] (some [1, 5, 15, 16]))
     .skip)))))))
   (.ops false [
     ⟨some 38, .bin .add (.t 16) (.k (.int 1)), none⟩,
     ⟨some 16, .mov (.t 38), none⟩] (some [1, 5, 15, 16]))))))))
 (.seq
 (.ops false [
   ⟨some 39, .mov (.t 5), none⟩,
   ⟨some 2, .mov (.t 39), none⟩,
   ⟨some 3, .mov (.k (.int 0)), none⟩] (some [2, 3]))
 .ret)))))

theorem m18g (b1 : List (Nat × Nat × BX)) : fmatch Tryd.prog Tryd.f18 1 [.tmp 2, .tmp 3] (v18g b1) = true := by kernel_rfl

end Go.Proofs.YtpangdaijhiohaaDoor


/- Plain law of the gauges: who is next, and what all have. -/
set_option linter.unusedSimpArgs false
set_option linter.unusedVariables false
set_option linter.unnecessarySimpa false
namespace Go.Proofs.YtpangdaijhiohaaDoor.Mo

structure Bx where
  sh : List Int
  mo : List Int

abbrev at0 (l : List Int) (i : Nat) : Int := l[i]?.getD default

/-- A valid box. -/
structure BV (b : Bx) : Prop where
  n5 : b.sh.length ≤ 5
  len : b.mo.length = b.sh.length
  s0 : ∀ i, i < b.sh.length → 0 ≤ at0 b.sh i ∧ at0 b.sh i ≤ 20
  m0 : ∀ i, i < b.sh.length → 0 ≤ at0 b.mo i ∧ at0 b.mo i ≤ 20

/-- One quarter looked at. -/
def nxt1 (b : Bx) (h : List Int) (best : Int) (i : Nat) : Int :=
  if at0 b.sh i = 0 ∨ at0 b.mo i ≤ at0 h i then best
  else if best < 0 ∨ at0 b.sh best.toNat * (2 * at0 h i + 1) < at0 b.sh i * (2 * at0 h best.toNat + 1) then i else best

def nxtF (b : Bx) (h : List Int) (k : Nat) : Int := (List.range k).foldl (nxt1 b h) (-1)

def nxt (b : Bx) (h : List Int) : Int := nxtF b h b.sh.length

/-- A gauge more. -/
def inc (h : List Int) (q : Int) : List Int := if q < 0 then h else h.set q.toNat (at0 h q.toNat + 1)

def hasL (b : Bx) : Nat → List Int
  | 0 => List.replicate b.sh.length 0
  | k + 1 => inc (hasL b k) (nxt b (hasL b k))

theorem at0_lt {l : List Int} {i : Nat} (h : i < l.length) : at0 l i = l[i] := by simp [at0, h]

theorem at0_set {l : List Int} {i j : Nat} {x : Int} (h : i < l.length) : at0 (l.set i x) j = if i = j then x else at0 l j := by
  unfold at0
  rw [List.getElem?_set]
  by_cases e : i = j
  · rw [if_pos e, if_pos e, if_pos (e ▸ h)]; rfl
  · rw [if_neg e, if_neg e]

theorem nxtF_succ (b : Bx) (h : List Int) (k : Nat) : nxtF b h (k + 1) = nxt1 b h (nxtF b h k) k := by
  unfold nxtF
  rw [List.range_succ, List.foldl_append]
  rfl

/-- A quarter that can take one more. -/
def opn (b : Bx) (h : List Int) (i : Nat) : Prop := at0 b.sh i ≠ 0 ∧ at0 h i < at0 b.mo i

/-- Gauge k of quarter i comes before gauge m of quarter j. -/
def prc (b : Bx) (i : Nat) (k : Int) (j : Nat) (m : Int) : Prop :=
  at0 b.sh j * (2 * k + 1) < at0 b.sh i * (2 * m + 1) ∨ (at0 b.sh j * (2 * k + 1) = at0 b.sh i * (2 * m + 1) ∧ i < j)

theorem frac_lt {A a B c C d : Int} (hc : 0 < c) (ha : 0 < a) (hd : 0 < d) (h1 : B * a < A * c) (h2 : C * c ≤ B * d) : C * a < A * d := by
  have e1 : B * a * d < A * c * d := Int.mul_lt_mul_of_pos_right h1 hd
  have e2 : C * c * a ≤ B * d * a := Int.mul_le_mul_of_nonneg_right h2 (Int.le_of_lt ha)
  have e3 : B * d * a = B * a * d := by rw [Int.mul_assoc, Int.mul_comm d a, ← Int.mul_assoc]
  have e4 : (C * a) * c < (A * d) * c := by
    have x1 : C * a * c = C * c * a := by rw [Int.mul_assoc, Int.mul_comm a c, ← Int.mul_assoc]
    have x2 : A * d * c = A * c * d := by rw [Int.mul_assoc, Int.mul_comm d c, ← Int.mul_assoc]
    rw [x1, x2]
    omega
  exact Int.lt_of_mul_lt_mul_right e4 (Int.le_of_lt hc)

theorem frac_le {A a B c C d : Int} (hc : 0 < c) (ha : 0 < a) (hd : 0 < d) (h1 : B * a ≤ A * c) (h2 : C * c ≤ B * d) : C * a ≤ A * d := by
  have e1 : B * a * d ≤ A * c * d := Int.mul_le_mul_of_nonneg_right h1 (Int.le_of_lt hd)
  have e2 : C * c * a ≤ B * d * a := Int.mul_le_mul_of_nonneg_right h2 (Int.le_of_lt ha)
  have e3 : B * d * a = B * a * d := by rw [Int.mul_assoc, Int.mul_comm d a, ← Int.mul_assoc]
  have e4 : (C * a) * c ≤ (A * d) * c := by
    have x1 : C * a * c = C * c * a := by rw [Int.mul_assoc, Int.mul_comm a c, ← Int.mul_assoc]
    have x2 : A * d * c = A * c * d := by rw [Int.mul_assoc, Int.mul_comm d c, ← Int.mul_assoc]
    rw [x1, x2]
    omega
  exact Int.le_of_mul_le_mul_right e4 hc

theorem frac_lt' {A a B c C d : Int} (hc : 0 < c) (ha : 0 < a) (hd : 0 < d) (h1 : B * a ≤ A * c) (h2 : C * c < B * d) : C * a < A * d := by
  have e1 : B * a * d ≤ A * c * d := Int.mul_le_mul_of_nonneg_right h1 (Int.le_of_lt hd)
  have e2 : C * c * a < B * d * a := Int.mul_lt_mul_of_pos_right h2 ha
  have e3 : B * d * a = B * a * d := by rw [Int.mul_assoc, Int.mul_comm d a, ← Int.mul_assoc]
  have e4 : (C * a) * c < (A * d) * c := by
    have x1 : C * a * c = C * c * a := by rw [Int.mul_assoc, Int.mul_comm a c, ← Int.mul_assoc]
    have x2 : A * d * c = A * c * d := by rw [Int.mul_assoc, Int.mul_comm d c, ← Int.mul_assoc]
    rw [x1, x2]
    omega
  exact Int.lt_of_mul_lt_mul_right e4 (Int.le_of_lt hc)

/-- To come before is transitive. -/
theorem prc_trans {b : Bx} {i j l : Nat} {k m n : Int} (hk : 0 ≤ k) (hm : 0 ≤ m) (hn : 0 ≤ n) (h1 : prc b i k j m) (h2 : prc b j m l n) : prc b i k l n := by
  unfold prc at *
  rcases h1 with h1 | ⟨h1, e1⟩
  · exact .inl (frac_lt (c := 2 * m + 1) (by omega) (by omega) (by omega) h1 (by omega))
  · rcases h2 with h2 | ⟨h2, e2⟩
    · exact .inl (frac_lt' (c := 2 * m + 1) (by omega) (by omega) (by omega) (Int.le_of_eq h1) h2)
    · refine .inr ⟨?_, by omega⟩
      have a1 := frac_le (c := 2 * m + 1) (by omega) (by omega) (by omega) (Int.le_of_eq h1) (Int.le_of_eq h2)
      have a2 := frac_le (A := at0 b.sh l) (a := 2 * n + 1) (B := at0 b.sh j) (c := 2 * m + 1) (C := at0 b.sh i) (d := 2 * k + 1) (by omega) (by omega) (by omega) (Int.le_of_eq h2.symm) (Int.le_of_eq h1.symm)
      omega

/-- Within a quarter. -/
theorem prc_self {b : Bx} {i : Nat} {k m : Int} (hs : 0 < at0 b.sh i) (h : k < m) : prc b i k i m := by
  unfold prc
  left
  exact Int.mul_lt_mul_of_pos_left (by omega) hs

/-- Who is next. -/
theorem nxtF_spec {b : Bx} (hv : BV b) {h : List Int} (h0 : ∀ i, i < b.sh.length → 0 ≤ at0 h i) : ∀ k, k ≤ b.sh.length →
    (nxtF b h k = -1 ∧ ∀ i, i < k → ¬ opn b h i) ∨ (∃ r : Nat, nxtF b h k = r ∧ r < k ∧ opn b h r ∧ ∀ i, i < k → opn b h i → i ≠ r → prc b r (at0 h r) i (at0 h i))
  | 0, _ => .inl ⟨rfl, fun i hi => by omega⟩
  | k + 1, hk => by
    have ih := nxtF_spec hv h0 k (by omega)
    rw [nxtF_succ]
    unfold nxt1
    by_cases hc : at0 b.sh k = 0 ∨ at0 b.mo k ≤ at0 h k
    · rw [if_pos hc]
      have hcl : ¬ opn b h k := by unfold opn; omega
      rcases ih with ⟨e, ih⟩ | ⟨r, e, hr, ho, ih⟩
      · refine .inl ⟨e, fun i hi => ?_⟩
        rcases Nat.lt_or_ge i k with h1 | h1
        · exact ih i h1
        · obtain rfl : i = k := by omega
          exact hcl
      · refine .inr ⟨r, e, by omega, ho, fun i hi hoi hne => ?_⟩
        rcases Nat.lt_or_ge i k with h1 | h1
        · exact ih i h1 hoi hne
        · obtain rfl : i = k := by omega
          exact absurd hoi hcl
    · rw [if_neg hc]
      have hok : opn b h k := by unfold opn; omega
      rcases ih with ⟨e, ih⟩ | ⟨r, e, hr, ho, ih⟩
      · rw [if_pos (.inl (by omega))]
        refine .inr ⟨k, rfl, by omega, hok, fun i hi hoi hne => ?_⟩
        exact absurd hoi (ih i (by omega))
      · rw [e, Int.toNat_natCast]
        by_cases hlt : (r : Int) < 0 ∨ at0 b.sh r * (2 * at0 h k + 1) < at0 b.sh k * (2 * at0 h r + 1)
        · rw [if_pos hlt]
          have hlt2 : at0 b.sh r * (2 * at0 h k + 1) < at0 b.sh k * (2 * at0 h r + 1) := by omega
          have hkr : prc b k (at0 h k) r (at0 h r) := .inl hlt2
          refine .inr ⟨k, rfl, by omega, hok, fun i hi hoi hne => ?_⟩
          have hik : i < k := by omega
          by_cases hir : i = r
          · subst hir; exact hkr
          · exact prc_trans (h0 k (by omega)) (h0 r (by omega)) (h0 i (by omega)) hkr (ih i hik hoi hir)
        · rw [if_neg hlt]
          refine .inr ⟨r, rfl, by omega, ho, fun i hi hoi hne => ?_⟩
          rcases Nat.lt_or_ge i k with h1 | h1
          · exact ih i h1 hoi hne
          · obtain rfl : i = k := by omega
            unfold prc
            omega

/-- What is so of the gauges: none below 0, none above the most, those without a share have none; what is taken comes before what is not. -/
structure Gd (b : Bx) (h : List Int) : Prop where
  len : h.length = b.sh.length
  lo : ∀ i, i < b.sh.length → 0 ≤ at0 h i ∧ at0 h i ≤ at0 b.mo i
  no : ∀ i, i < b.sh.length → at0 b.sh i = 0 → at0 h i = 0
  bef : ∀ q o, q < b.sh.length → o < b.sh.length → 0 < at0 h q → opn b h o → prc b q (at0 h q - 1) o (at0 h o)

theorem nxt_spec {b : Bx} (hv : BV b) {h : List Int} (hg : Gd b h) :
    (nxt b h = -1 ∧ ∀ i, i < b.sh.length → ¬ opn b h i) ∨ (∃ r : Nat, nxt b h = r ∧ r < b.sh.length ∧ opn b h r ∧ ∀ i, i < b.sh.length → opn b h i → i ≠ r → prc b r (at0 h r) i (at0 h i)) :=
  nxtF_spec hv (fun i hi => (hg.lo i hi).1) _ (Nat.le_refl _)

theorem inc_at {b : Bx} {h : List Int} (hl : h.length = b.sh.length) {r : Nat} (hr : r < b.sh.length) (i : Nat) : at0 (inc h r) i = if r = i then at0 h r + 1 else at0 h i := by
  unfold inc
  rw [if_neg (by omega), Int.toNat_natCast, at0_set (by omega)]

theorem inc_neg (h : List Int) : inc h (-1) = h := by simp [inc]

theorem inc_len (h : List Int) (q : Int) : (inc h q).length = h.length := by
  unfold inc
  split <;> simp

theorem gd_step {b : Bx} (hv : BV b) {h : List Int} (hg : Gd b h) : Gd b (inc h (nxt b h)) := by
  rcases nxt_spec hv hg with ⟨e, _⟩ | ⟨r, e, hr, ho, hb⟩
  · rw [e, inc_neg]; exact hg
  · rw [e]
    have ha := fun i => inc_at hg.len hr (i := i)
    have hsr := hv.s0 r hr
    obtain ⟨ho1, ho2⟩ := ho
    refine ⟨by rw [inc_len]; exact hg.len, fun i hi => ?_, fun i hi hs => ?_, fun q o hq hoL hp hop => ?_⟩
    · rw [ha]
      have := hg.lo i hi
      split
      · rename_i e; subst e; omega
      · exact this
    · rw [ha]
      have := hg.no i hi hs
      split
      · rename_i e; subst e; omega
      · exact this
    · rw [ha] at hp ⊢
      have hq0 := hg.lo q hq
      have ho0 := hg.lo o hoL
      obtain ⟨p1, p2⟩ := hop
      rw [ha] at p2
      have hso := hv.s0 o hoL
      by_cases hqr : r = q
      · subst hqr
        rw [if_pos rfl, show at0 h r + 1 - 1 = at0 h r by omega, ha]
        by_cases hor : r = o
        · subst hor
          rw [if_pos rfl]
          exact prc_self (by omega) (by omega)
        · rw [if_neg hor] at p2 ⊢
          exact hb o hoL ⟨p1, p2⟩ (by omega)
      · rw [if_neg hqr] at hp ⊢
        rw [ha]
        by_cases hor : r = o
        · subst hor
          rw [if_pos rfl]
          have h1 := hg.bef q r hq hr hp ⟨ho1, ho2⟩
          exact prc_trans (by omega) (by omega) (by omega) h1 (prc_self (by omega) (by omega))
        · rw [if_neg hor] at p2 ⊢
          exact hg.bef q o hq hoL hp ⟨p1, p2⟩

theorem at0_rep (n i : Nat) : at0 (List.replicate n (0 : Int)) i = 0 := by
  unfold at0
  rw [List.getElem?_replicate]
  split <;> rfl

theorem gd_has {b : Bx} (hv : BV b) : ∀ k, Gd b (hasL b k)
  | 0 => by
    refine ⟨by simp [hasL], fun i hi => ?_, fun i hi _ => ?_, fun q o hq ho hp => ?_⟩
    · simp only [hasL, at0_rep]
      have := hv.m0 i hi
      omega
    · simp only [hasL, at0_rep]
    · simp only [hasL, at0_rep] at hp
      omega
  | k + 1 => gd_step hv (gd_has hv k)

/-! ### sums -/

def sumI (l : List Int) : Int := l.foldl (· + ·) 0

theorem foldl_add (l : List Int) (a : Int) : l.foldl (· + ·) a = a + sumI l := by
  unfold sumI
  induction l generalizing a with
  | nil => simp
  | cons x r ih =>
    simp only [List.foldl_cons]
    rw [ih (a + x), ih (0 + x)]
    omega

theorem sumI_nil : sumI [] = 0 := rfl

theorem sumI_cons (x : Int) (l : List Int) : sumI (x :: l) = x + sumI l := by
  show (x :: l).foldl (· + ·) 0 = _
  rw [List.foldl_cons, foldl_add]
  omega

theorem sumI_app (l k : List Int) : sumI (l ++ k) = sumI l + sumI k := by
  induction l with
  | nil => simp [sumI_nil]
  | cons x r ih => rw [List.cons_append, sumI_cons, sumI_cons, ih]; omega

theorem sumI_set (l : List Int) (i : Nat) (x : Int) (h : i < l.length) : sumI (l.set i x) = sumI l - at0 l i + x := by
  induction l generalizing i with
  | nil => simp at h
  | cons y r ih =>
    cases i with
    | zero => simp only [List.set_cons_zero, sumI_cons]; simp [at0]; omega
    | succ i =>
      simp only [List.set_cons_succ, sumI_cons]
      rw [ih i (by simpa using h)]
      have : at0 (y :: r) (i + 1) = at0 r i := by simp [at0]
      rw [this]
      omega

theorem sumI_rep (n : Nat) : sumI (List.replicate n (0 : Int)) = 0 := by
  induction n with
  | zero => rfl
  | succ n ih => rw [List.replicate_succ, sumI_cons, ih]; rfl

theorem sum_step {b : Bx} (hv : BV b) {h : List Int} (hg : Gd b h) : sumI (inc h (nxt b h)) = if nxt b h < 0 then sumI h else sumI h + 1 := by
  rcases nxt_spec hv hg with ⟨e, _⟩ | ⟨r, e, hr, ho, hb⟩
  · rw [e, inc_neg, if_pos (by omega)]
  · rw [e, if_neg (by omega)]
    unfold inc
    rw [if_neg (by omega), Int.toNat_natCast, sumI_set _ _ _ (by rw [hg.len]; exact hr)]
    omega

theorem sum_has {b : Bx} (hv : BV b) : ∀ k, 0 ≤ sumI (hasL b k) ∧ sumI (hasL b k) ≤ k
  | 0 => by simp [hasL, sumI_rep]
  | k + 1 => by
    have ih := sum_has hv k
    have := sum_step hv (gd_has hv k)
    show 0 ≤ sumI (inc _ _) ∧ sumI (inc _ _) ≤ _
    rw [this]
    split <;> omega

end Go.Proofs.YtpangdaijhiohaaDoor.Mo


/- Plain law of the gauges: greater shares and mosts, some quarters, quarters that are alike. -/
set_option linter.unusedSimpArgs false
set_option linter.unusedVariables false
set_option linter.unnecessarySimpa false
namespace Go.Proofs.YtpangdaijhiohaaDoor.Mo

theorem alike {b : Bx} {h : List Int} (hg : Gd b h) {i j : Nat} (hij : i < j) (hj : j < b.sh.length) (hs : at0 b.sh i = at0 b.sh j) (hm : at0 b.mo i = at0 b.mo j) (hs0 : 0 ≤ at0 b.sh i) : 0 ≤ at0 h i - at0 h j ∧ at0 h i - at0 h j ≤ 1 := by
  have hi : i < b.sh.length := by omega
  have hi0 := hg.lo i hi
  have hj0 := hg.lo j hj
  by_cases h0 : at0 b.sh i = 0
  · have := hg.no i hi h0
    have := hg.no j hj (by omega)
    omega
  · constructor
    · apply Classical.byContradiction
      intro hlt
      have h1 := hg.bef j i hj hi (by omega) ⟨h0, by omega⟩
      unfold prc at h1
      rw [← hs] at h1
      rcases h1 with h1 | ⟨_, h1⟩
      · have := Int.lt_of_mul_lt_mul_left h1 (by omega)
        omega
      · omega
    · apply Classical.byContradiction
      intro hlt
      have h1 := hg.bef i j hi hj (by omega) ⟨by omega, by omega⟩
      unfold prc at h1
      rw [← hs] at h1
      rcases h1 with h1 | ⟨h1, _⟩
      · have := Int.lt_of_mul_lt_mul_left h1 (by omega)
        omega
      · have := Int.eq_of_mul_eq_mul_left h0 h1
        omega

/-- One quarter's share and most may be greater. -/
structure Mre (b b' : Bx) (q : Nat) : Prop where
  lt : q < b.sh.length
  len : b'.sh.length = b.sh.length
  sq : at0 b.sh q ≤ at0 b'.sh q
  mq : at0 b.mo q ≤ at0 b'.mo q
  so : ∀ i, i ≠ q → at0 b'.sh i = at0 b.sh i
  mo : ∀ i, i ≠ q → at0 b'.mo i = at0 b.mo i

end Go.Proofs.YtpangdaijhiohaaDoor.Mo


/- Plain law of the remainders: the quarters in the order of what is left of their parts. -/
set_option linter.unusedSimpArgs false
set_option linter.unusedVariables false
set_option linter.unnecessarySimpa false
namespace Go.Proofs.YtpangdaijhiohaaDoor.Mo

/-- i comes before j by what is left; the first one where it is the same. -/
def bfr (r : Nat → Int) (i j : Nat) : Prop := r j < r i ∨ (r j = r i ∧ i < j)

instance (r : Nat → Int) (i j : Nat) : Decidable (bfr r i j) := by unfold bfr; exact inferInstance

theorem bfr_trans {r : Nat → Int} {i j k : Nat} (h1 : bfr r i j) (h2 : bfr r j k) : bfr r i k := by unfold bfr at *; omega

def swp (d : List Nat) (j : Nat) : List Nat := (d.set j (d[j - 1]?.getD 0)).set (j - 1) (d[j]?.getD 0)

/-- An element goes down to its place. -/
def bub (r : Nat → Int) : Nat → List Nat → List Nat
  | 0, d => d
  | j + 1, d => if r (d[j]?.getD 0) < r (d[j + 1]?.getD 0) then bub r j (swp d (j + 1)) else d

def srt (r : Nat → Int) (d : List Nat) (k : Nat) : List Nat := (List.range k).foldl (fun d i => bub r (i + 1) d) d

theorem swp_len (d : List Nat) (j : Nat) : (swp d j).length = d.length := by simp [swp]

theorem bub_len (r : Nat → Int) : ∀ j d, (bub r j d).length = d.length
  | 0, d => rfl
  | j + 1, d => by
    unfold bub
    split
    · rw [bub_len r j, swp_len]
    · rfl

theorem srt_succ (r : Nat → Int) (d : List Nat) (k : Nat) : srt r d (k + 1) = bub r (k + 1) (srt r d k) := by
  unfold srt
  rw [List.range_succ, List.foldl_append]
  rfl

theorem srt_len (r : Nat → Int) (d : List Nat) : ∀ k, (srt r d k).length = d.length
  | 0 => rfl
  | k + 1 => by rw [srt_succ, bub_len, srt_len r d k]

theorem swp_perm (d : List Nat) (j : Nat) (hj : j + 1 < d.length) : (swp d (j + 1)).Perm d := by
  unfold swp
  simp only [Nat.add_sub_cancel]
  induction j generalizing d with
  | zero =>
    match d, hj with
    | a :: b :: l, _ => exact List.Perm.swap a b l
  | succ j ih =>
    match d, hj with
    | a :: l, hj =>
      have := ih l (by simpa using hj)
      simp only [List.getElem?_cons_succ, List.set_cons_succ]
      exact this.cons a

theorem bub_perm (r : Nat → Int) : ∀ j d, j < d.length → (bub r j d).Perm d
  | 0, d, _ => List.Perm.refl _
  | j + 1, d, hj => by
    unfold bub
    split
    · exact (bub_perm r j _ (by rw [swp_len]; omega)).trans (swp_perm d j hj)
    · exact List.Perm.refl _

theorem srt_perm (r : Nat → Int) (d : List Nat) : ∀ k, k < d.length ∨ k = 0 → (srt r d k).Perm d
  | 0, _ => List.Perm.refl _
  | k + 1, hk => by
    rw [srt_succ]
    exact (bub_perm r (k + 1) _ (by rw [srt_len]; omega)).trans (srt_perm r d k (by omega))

abbrev nth (d : List Nat) (i : Nat) : Nat := d[i]?.getD 0

theorem swp_nth (d : List Nat) (j i : Nat) (hj : j + 1 < d.length) : nth (swp d (j + 1)) i = if i = j then nth d (j + 1) else if i = j + 1 then nth d j else nth d i := by
  unfold swp nth
  simp only [Nat.add_sub_cancel]
  rw [List.getElem?_set, List.getElem?_set]
  by_cases h1 : i = j
  · subst h1
    rw [if_pos rfl, if_pos rfl, if_pos (by simp; omega)]
    rfl
  · rw [if_neg h1, if_neg (by omega)]
    by_cases h2 : i = j + 1
    · subst h2
      rw [if_pos rfl, if_pos rfl, if_pos hj]
      rfl
    · rw [if_neg h2, if_neg (by omega)]

/-- Down it goes: the first ones are in order, and behind it too. -/
theorem bub_sorted (r : Nat → Int) : ∀ (j m : Nat) (d : List Nat), j ≤ m → m < d.length →
    (∀ a b, a < b → b ≤ m → a ≠ j → b ≠ j → bfr r (nth d a) (nth d b)) → (∀ b, j < b → b ≤ m → bfr r (nth d j) (nth d b)) →
    (∀ a, a < j → nth d a < nth d j) → ∀ a b, a < b → b ≤ m → bfr r (nth (bub r j d) a) (nth (bub r j d) b)
  | 0, m, d, hjm, hm, h1, h2, h3 => by
    intro a b hab hb
    unfold bub
    by_cases ha : a = 0
    · subst ha; exact h2 b hab hb
    · exact h1 a b hab hb ha (by omega)
  | j + 1, m, d, hjm, hm, h1, h2, h3 => by
    unfold bub
    have hs := fun i => swp_nth d j i (by omega)
    split
    · rename_i hlt
      have hlt' : r (nth d j) < r (nth d (j + 1)) := hlt
      refine bub_sorted r j m (swp d (j + 1)) (by omega) (by rw [swp_len]; exact hm) ?_ ?_ ?_
      · intro a b hab hb ha hbj
        rw [hs a, hs b, if_neg ha, if_neg hbj]
        by_cases e1 : a = j + 1
        · rw [if_pos e1, if_neg (by omega)]
          exact h1 j b (by omega) hb (by omega) (by omega)
        · rw [if_neg e1]
          by_cases e2 : b = j + 1
          · rw [if_pos e2]
            exact h1 a j (by omega) (by omega) (by omega) (by omega)
          · rw [if_neg e2]
            exact h1 a b hab hb (by omega) (by omega)
      · intro b hjb hb
        rw [hs j, hs b, if_pos rfl, if_neg (by omega)]
        by_cases e2 : b = j + 1
        · rw [if_pos e2]
          exact .inl hlt'
        · rw [if_neg e2]
          exact h2 b (by omega) hb
      · intro a ha
        rw [hs a, hs j, if_pos rfl, if_neg (by omega), if_neg (by omega)]
        exact h3 a (by omega)
    · rename_i hge
      have hge' : ¬ r (nth d j) < r (nth d (j + 1)) := hge
      intro a b hab hb
      by_cases e1 : a = j + 1
      · subst e1; exact h2 b hab hb
      · by_cases e2 : b = j + 1
        · subst e2
          have hj0 : bfr r (nth d j) (nth d (j + 1)) := by
            have := h3 j (by omega)
            unfold bfr; omega
          by_cases e3 : a = j
          · subst e3; exact hj0
          · exact bfr_trans (h1 a j (by omega) (by omega) (by omega) (by omega)) hj0
        · exact h1 a b hab hb e1 e2

/-- What lies behind the place is not touched. -/
theorem bub_after (r : Nat → Int) : ∀ (j : Nat) (d : List Nat), j < d.length → ∀ i, j < i → nth (bub r j d) i = nth d i
  | 0, d, _, i, _ => rfl
  | j + 1, d, hj, i, hi => by
    unfold bub
    split
    · rw [bub_after r j _ (by rw [swp_len]; omega) i (by omega), swp_nth d j i hj, if_neg (by omega), if_neg (by omega)]
    · rfl

theorem bub_le (r : Nat → Int) : ∀ (j m M : Nat) (d : List Nat), j ≤ m → m < d.length → (∀ a, a ≤ m → nth d a ≤ M) → ∀ a, a ≤ m → nth (bub r j d) a ≤ M
  | 0, m, M, d, _, _, h, a, ha => h a ha
  | j + 1, m, M, d, hj, hm, h, a, ha => by
    unfold bub
    split
    · refine bub_le r j m M _ (by omega) (by rw [swp_len]; exact hm) (fun c hc => ?_) a ha
      rw [swp_nth d j c (by omega)]
      split
      · exact h _ (by omega)
      · split
        · exact h _ (by omega)
        · exact h c hc
    · exact h a ha

/-- The sorted list: all of 0 .. n - 1. -/
def srtN (r : Nat → Int) (n : Nat) : List Nat := srt r (List.range n) (n - 1)

theorem nth_range {n i : Nat} (h : i < n) : nth (List.range n) i = i := by simp [nth, h]

theorem srt_inv (r : Nat → Int) (n : Nat) : ∀ k, k < n → (∀ i, k < i → i < n → nth (srt r (List.range n) k) i = i) ∧ (∀ i, i ≤ k → nth (srt r (List.range n) k) i ≤ k) ∧ ∀ a b, a < b → b ≤ k → bfr r (nth (srt r (List.range n) k) a) (nth (srt r (List.range n) k) b)
  | 0, hk => by
    refine ⟨fun i _ hi => nth_range hi, fun i hi => ?_, fun a b h1 h2 => by omega⟩
    obtain rfl : i = 0 := by omega
    show nth (List.range n) 0 ≤ 0
    rw [nth_range hk]
    exact Nat.le_refl _
  | k + 1, hk => by
    obtain ⟨h1, h2, h3⟩ := srt_inv r n k (by omega)
    rw [srt_succ]
    have hl : (srt r (List.range n) k).length = n := by rw [srt_len, List.length_range]
    generalize srt r (List.range n) k = d at *
    have hk1 := h1 (k + 1) (by omega) hk
    have hso := bub_sorted r (k + 1) (k + 1) d (Nat.le_refl _) (by omega) (fun a b hab hb ha hbj => h3 a b hab (by omega)) (fun b _ _ => by omega) (fun a ha => by
      rw [hk1]
      have := h2 a (by omega)
      omega)
    have haf := bub_after r (k + 1) d (by omega)
    refine ⟨fun i hi hin => by rw [haf i hi]; exact h1 i (by omega) hin, fun i hi => ?_, hso⟩
    refine bub_le r (k + 1) (k + 1) (k + 1) d (Nat.le_refl _) (by omega) (fun a ha => ?_) i hi
    rcases Nat.lt_or_ge k a with h | h
    · obtain rfl : a = k + 1 := by omega
      omega
    · have := h2 a h
      omega

/-- All of them, each once, each before those behind it. -/
theorem srtN_perm (r : Nat → Int) (n : Nat) : (srtN r n).Perm (List.range n) := srt_perm r _ _ (by simp; omega)

theorem srtN_len (r : Nat → Int) (n : Nat) : (srtN r n).length = n := by unfold srtN; rw [srt_len, List.length_range]

theorem srtN_ord (r : Nat → Int) (n : Nat) : ∀ a b, a < b → b < n → bfr r (nth (srtN r n) a) (nth (srtN r n) b) := by
  intro a b hab hb
  exact (srt_inv r n (n - 1) (by omega)).2.2 a b hab (by omega)

end Go.Proofs.YtpangdaijhiohaaDoor.Mo


/- Plain law of the remainders: what each quarter has. -/
set_option linter.unusedSimpArgs false
set_option linter.unusedVariables false
set_option linter.unnecessarySimpa false
namespace Go.Proofs.YtpangdaijhiohaaDoor.Mo

def allS (b : Bx) : Int := sumI b.sh

def restI (b : Bx) (f : Int) (i : Nat) : Int := f * at0 b.sh i % allS b

def flrI (b : Bx) (f : Int) (i : Nat) : Int := f * at0 b.sh i / allS b

def flrL (b : Bx) (f : Int) : List Int := (List.range b.sh.length).map (flrI b f)

def leftI (b : Bx) (f : Int) : Int := f - sumI (flrL b f)

theorem sumI_rmap_succ (g : Nat → Int) (n : Nat) : sumI ((List.range (n + 1)).map g) = sumI ((List.range n).map g) + g n := by
  rw [List.range_succ, List.map_append, sumI_app]
  show _ + sumI [g n] = _
  rw [sumI_cons, sumI_nil]
  omega

theorem sumI_rmap_add (g h : Nat → Int) (n : Nat) : sumI ((List.range n).map fun i => g i + h i) = sumI ((List.range n).map g) + sumI ((List.range n).map h) := by
  induction n with
  | zero => rfl
  | succ n ih => rw [sumI_rmap_succ, sumI_rmap_succ, sumI_rmap_succ, ih]; omega

theorem sumI_rmap_mul (g : Nat → Int) (a : Int) (n : Nat) : sumI ((List.range n).map fun i => a * g i) = a * sumI ((List.range n).map g) := by
  induction n with
  | zero => simp [sumI_nil]
  | succ n ih => rw [sumI_rmap_succ, sumI_rmap_succ, ih, Int.mul_add]

theorem sumI_rmap_congr {g h : Nat → Int} {n : Nat} (e : ∀ i, i < n → g i = h i) : sumI ((List.range n).map g) = sumI ((List.range n).map h) := by
  congr 1
  exact List.map_congr_left fun i hi => e i (List.mem_range.1 hi)

theorem list_rmap (l : List Int) : (List.range l.length).map (at0 l) = l := by
  apply List.ext_getElem (by simp)
  intro i h1 h2
  simp [at0, h2]

theorem sumI_rmap_at (l : List Int) : sumI ((List.range l.length).map (at0 l)) = sumI l := by rw [list_rmap]

/-- The parts and what is left of them. -/
theorem parts (b : Bx) (f : Int) (h0 : 0 < allS b) : allS b * leftI b f = sumI ((List.range b.sh.length).map (restI b f)) := by
  have h1 : sumI ((List.range b.sh.length).map fun i => allS b * flrI b f i + restI b f i) = f * allS b := by
    have e : sumI ((List.range b.sh.length).map fun i => allS b * flrI b f i + restI b f i) = sumI ((List.range b.sh.length).map fun i => f * at0 b.sh i) :=
      sumI_rmap_congr fun i _ => Int.mul_ediv_add_emod _ _
    rw [e, sumI_rmap_mul, sumI_rmap_at]
    rfl
  rw [sumI_rmap_add, sumI_rmap_mul] at h1
  unfold leftI flrL
  rw [Int.mul_sub, Int.mul_comm (allS b) f]
  omega

end Go.Proofs.YtpangdaijhiohaaDoor.Mo


/- Contracts of small functions. -/
set_option linter.unusedSimpArgs false
set_option linter.unusedVariables false
set_option linter.unnecessarySimpa false
namespace Go.Proofs.YtpangdaijhiohaaDoor.Mo
open Go Go.V

theorem hmix : Tryd.prog.follows .mixedOrders = true := by kernel_rfl

abbrev IS (l : List Int) : AV := .sl 1 (l.map .int) .sh

abbrev MB (b : Bx) : AV := .agg [IS b.sh, IS b.mo]

def within (n lo hi : Int) : Bool := decide (lo ≤ n ∧ n ≤ hi)

theorem c29 (n lo hi : Int) : Ctr Tryd.prog 29 [.int n, .int lo, .int hi] (.bool (within n lo hi)) := by
  refine ctr_of_wp hmix Tryd.func29 m29 rfl ?_
  unfold v29
  simp -failIfUnchanged (disch := first | omega | (simp <;> omega) | fail) only [go_sem, simprocAttr]
  refine WGd_bool (fun h => ?_) (fun h => ?_)
  · simp -failIfUnchanged (disch := first | omega | (simp <;> omega) | fail) only [go_sem, simprocAttr, h]
    simp only [decide_eq_true_eq] at h
    simp [within, h]
  · simp -failIfUnchanged (disch := first | omega | (simp <;> omega) | fail) only [go_sem, simprocAttr, h]
    simp only [Bool.not_true, decide_eq_false_iff_not] at h
    simp [within, h]

theorem c8 (n lo hi : Int) : Ctr Tryd.prog 8 [.int n, .int lo, .int hi] (.bool (within n lo hi)) := by
  refine ctr_of_wp hmix Tryd.func8 m8 rfl ?_
  unfold v8
  simp -failIfUnchanged (disch := first | omega | (simp <;> omega) | fail) only [go_sem, simprocAttr]
  refine WGd_bool (fun h => ?_) (fun h => ?_)
  · simp -failIfUnchanged (disch := first | omega | (simp <;> omega) | fail) only [go_sem, simprocAttr, h]
    simp only [decide_eq_true_eq] at h
    simp [within, h]
  · simp -failIfUnchanged (disch := first | omega | (simp <;> omega) | fail) only [go_sem, simprocAttr, h]
    simp only [Bool.not_true, decide_eq_false_iff_not] at h
    simp [within, h]

theorem c22 (n lo hi : Int) : Ctr Tryd.prog 22 [.int n, .int lo, .int hi] (.bool (within n lo hi)) := by
  refine ctr_of_wp hmix Tryd.func22 m22 rfl ?_
  unfold v22
  simp -failIfUnchanged (disch := first | omega | (simp <;> omega) | fail) only [go_sem, simprocAttr]
  refine wcall (c8 _ _ _) ?_
  simp -failIfUnchanged (disch := first | omega | (simp <;> omega) | fail) only [go_sem, simprocAttr]

theorem c40 (n : Int) : Ctr Tryd.prog 40 [.int n] (.bool (within n 0 40)) := by
  refine ctr_of_wp hmix Tryd.func40 m40 rfl ?_
  unfold v40
  simp -failIfUnchanged (disch := first | omega | (simp <;> omega) | fail) only [go_sem, simprocAttr]
  refine wcall (c29 _ _ _) ?_
  simp -failIfUnchanged (disch := first | omega | (simp <;> omega) | fail) only [go_sem, simprocAttr]

theorem c17 (a b : List Int) (ha : a.length < 4294967296) : Ctr Tryd.prog 17 [IS a, IS b] (.bool (decide (a = b))) := by
  refine ctr_of_wp hmix Tryd.func17 m17 rfl ?_
  unfold v17 IS
  simp -failIfUnchanged (disch := first | omega | (simp <;> omega) | fail) only [go_sem, simprocAttr]
  refine wcond_dec (fun h => ?_) (fun h => ?_)
  · simp -failIfUnchanged (disch := first | omega | (simp <;> omega) | fail) only [go_sem, simprocAttr]
    have : a ≠ b := fun e => by subst e; simp at h
    simp [this]
  · simp -failIfUnchanged (disch := first | omega | (simp <;> omega) | fail) only [go_sem, simprocAttr]
    refine wp_loop' Nat (fun i => ⟨[(0, IS a), (1, IS b), (5, .int i)], [], [], none⟩) (fun i => i ≤ a.length ∧ a.take i = b.take i) (fun i => a.length - i) 0 (by simp) (by unfold IS; simp -failIfUnchanged (disch := first | omega | (simp <;> omega) | fail) only [go_sem, simprocAttr]; try rfl) ?_
    rintro i ⟨hi, hpre⟩
    unfold IS
    simp -failIfUnchanged (disch := first | omega | (simp <;> omega) | fail) only [go_sem, simprocAttr]
    have hl : a.length = b.length := by omega
    refine wcond_dec (fun h => ?_) (fun h => ?_)
    · simp -failIfUnchanged (disch := first | omega | (simp <;> omega) | fail) only [go_sem, simprocAttr]
      have e1 : a[i]? = some a[i] := List.getElem?_eq_getElem (by omega)
      have e2 : b[i]? = some b[i] := List.getElem?_eq_getElem (by omega)
      rw [e1, e2]
      simp -failIfUnchanged (disch := first | omega | (simp <;> omega) | fail) only [go_sem, simprocAttr]
      refine wcond_dec (fun h => ?_) (fun h => ?_)
      · simp -failIfUnchanged (disch := first | omega | (simp <;> omega) | fail) only [go_sem, simprocAttr]
        have : a ≠ b := fun e => by subst e; simp at h
        simp [this]
      · simp -failIfUnchanged (disch := first | omega | (simp <;> omega) | fail) only [go_sem, simprocAttr]
        refine ⟨i + 1, ⟨by omega, ?_⟩, by dsimp only; omega, ?_⟩
        · rw [List.take_add_one, List.take_add_one, hpre, e1, e2]
          simp only [Decidable.not_not] at h
          rw [h]
        · simp -failIfUnchanged (disch := first | omega | (simp <;> omega) | fail) only [go_sem, simprocAttr]
          simp
    · simp -failIfUnchanged (disch := first | omega | (simp <;> omega) | fail) only [go_sem, simprocAttr]
      have e : i = a.length := by omega
      have : a = b := by
        rw [e, List.take_length, hl, List.take_length] at hpre
        exact hpre
      simp [this]

theorem c19 (l : List Int) (n : Int) (hl : l.length < 4294967296) : Ctr Tryd.prog 19 [IS l, .int n] (.bool (decide (n ∈ l))) := by
  refine ctr_of_wp hmix Tryd.func19 m19 rfl ?_
  unfold v19 IS
  simp -failIfUnchanged (disch := first | omega | (simp <;> omega) | fail) only [go_sem, simprocAttr]
  refine wp_loop' Nat (fun i => ⟨[(0, IS l), (1, .int n), (5, .int i)], [], [], none⟩) (fun i => i ≤ l.length ∧ n ∉ l.take i) (fun i => l.length - i) 0 (by simp) (by unfold IS; simp -failIfUnchanged (disch := first | omega | (simp <;> omega) | fail) only [go_sem, simprocAttr]; try rfl) ?_
  rintro i ⟨hi, hpre⟩
  unfold IS
  simp -failIfUnchanged (disch := first | omega | (simp <;> omega) | fail) only [go_sem, simprocAttr]
  refine wcond_dec (fun h => ?_) (fun h => ?_)
  · have hlt : i < l.length := by omega
    have e1 : l[i]? = some l[i] := List.getElem?_eq_getElem hlt
    simp -failIfUnchanged (disch := first | omega | (simp <;> omega) | fail) only [go_sem, simprocAttr]
    rw [e1]
    simp -failIfUnchanged (disch := first | omega | (simp <;> omega) | fail) only [go_sem, simprocAttr]
    refine wcond_dec (fun h => ?_) (fun h => ?_)
    · simp -failIfUnchanged (disch := first | omega | (simp <;> omega) | fail) only [go_sem, simprocAttr]
      have : n ∈ l := by rw [← h]; exact List.getElem_mem _
      simp [this]
    · simp -failIfUnchanged (disch := first | omega | (simp <;> omega) | fail) only [go_sem, simprocAttr]
      refine ⟨i + 1, ⟨by omega, ?_⟩, by dsimp only; omega, ?_⟩
      · rw [List.take_add_one, e1, List.mem_append]
        rintro (h2 | h2)
        · exact hpre h2
        · simp at h2; exact h h2.symm
      · simp -failIfUnchanged (disch := first | omega | (simp <;> omega) | fail) only [go_sem, simprocAttr]
        simp
  · simp -failIfUnchanged (disch := first | omega | (simp <;> omega) | fail) only [go_sem, simprocAttr]
    have e : i = l.length := by omega
    rw [e, List.take_length] at hpre
    simp [hpre]

/-- The first place at which p holds, or -1. -/
def idxF {α : Type} (p : α → Bool) (l : List α) : Int := if l.any p then l.findIdx p else -1

theorem idxF_hit {α : Type} [Inhabited α] {p : α → Bool} {l : List α} {i : Nat} (hi : i < l.length) (hpre : ∀ x ∈ l.take i, p x = false) (h : p (l[i]?.getD default) = true) : idxF p l = i := by
  have e : l[i]?.getD default = l[i] := by simp [hi]
  rw [e] at h
  have hany : l.any p = true := List.any_eq_true.2 ⟨l[i], List.getElem_mem hi, h⟩
  have : l.findIdx p = i := by
    rw [List.findIdx_eq hi]
    refine ⟨h, fun j hj => ?_⟩
    refine hpre _ ?_
    have hj2 : j < l.length := by omega
    have : (l.take i)[j]'(by simp; omega) = l[j] := List.getElem_take
    rw [← this]
    exact List.getElem_mem _
  simp [idxF, hany, this]

theorem idxF_miss {α : Type} {p : α → Bool} {l : List α} (hpre : ∀ x ∈ l, p x = false) : idxF p l = -1 := by
  have : l.any p = false := List.any_eq_false.2 fun x hx => by simp [hpre x hx]
  simp [idxF, this]

theorem idxF_geq {α : Type} {p : α → Bool} {l : List α} : decide ((0 : Int) ≤ idxF p l) = l.any p := by
  unfold idxF
  cases l.any p <;> simp

theorem take_succ_all {α : Type} [Inhabited α] {p : α → Bool} {l : List α} {i : Nat} (hi : i < l.length) (hpre : ∀ x ∈ l.take i, p x = false) (h : p (l[i]?.getD default) = false) : ∀ x ∈ l.take (i + 1), p x = false := by
  intro x hx
  rw [List.take_add_one] at hx
  rcases List.mem_append.1 hx with hx | hx
  · exact hpre x hx
  · have e : l[i]? = some l[i] := List.getElem?_eq_getElem hi
    rw [e] at hx h
    simp at hx h
    rw [hx]; exact h

theorem mem_getD {α : Type} [Inhabited α] {l : List α} {i : Nat} (hi : i < l.length) : l[i]?.getD default ∈ l := by
  simp [hi]

theorem c56 (l : List Int) (g : Nat) (caps : List AV) (p : Int → Bool) (hp : ∀ x ∈ l, Ctr Tryd.prog g ([.int x] ++ caps) (.bool (p x))) (hl : l.length < 4294967296) :
    Ctr Tryd.prog 56 [IS l, .clo g [] caps] (.int (idxF p l)) := by
  refine ctr_of_wp hmix Tryd.func56 m56 rfl ?_
  unfold v56 IS
  simp -failIfUnchanged (disch := first | omega | (simp <;> omega) | fail) only [go_sem, simprocAttr]
  refine wp_loop' Nat (fun i => ⟨[(0, IS l), (1, .clo g [] caps), (7, .int l.length), (8, .int i)], [], [], none⟩) (fun i => i ≤ l.length ∧ ∀ x ∈ l.take i, p x = false) (fun i => l.length - i) 0 (by simp) (by unfold IS; simp -failIfUnchanged (disch := first | omega | (simp <;> omega) | fail) only [go_sem, simprocAttr]; try rfl) ?_
  rintro i ⟨hi, hpre⟩
  unfold IS
  simp -failIfUnchanged (disch := first | omega | (simp <;> omega) | fail) only [go_sem, simprocAttr]
  refine wcond_dec (fun h => ?_) (fun h => ?_)
  · simp -failIfUnchanged (disch := first | omega | (simp <;> omega) | fail) only [go_sem, simprocAttr]
    have hlt : i < l.length := by omega
    refine wcall (hp _ (mem_getD hlt)) ?_
    simp -failIfUnchanged (disch := first | omega | (simp <;> omega) | fail) only [go_sem, simprocAttr]
    refine wcond_bool (fun hb => ?_) (fun hb => ?_)
    · simp -failIfUnchanged (disch := first | omega | (simp <;> omega) | fail) only [go_sem, simprocAttr]
      rw [idxF_hit hlt hpre hb]
    · simp -failIfUnchanged (disch := first | omega | (simp <;> omega) | fail) only [go_sem, simprocAttr]
      refine ⟨i + 1, ⟨by omega, take_succ_all hlt hpre hb⟩, by dsimp only; omega, ?_⟩
      simp -failIfUnchanged (disch := first | omega | (simp <;> omega) | fail) only [go_sem, simprocAttr]
      try simp
  · simp -failIfUnchanged (disch := first | omega | (simp <;> omega) | fail) only [go_sem, simprocAttr]
    have e : i = l.length := by omega
    rw [idxF_miss]
    rw [e, List.take_length] at hpre
    exact hpre

theorem c44 (l : List Int) (g : Nat) (caps : List AV) (p : Int → Bool) (hp : ∀ x ∈ l, Ctr Tryd.prog g ([.int x] ++ caps) (.bool (p x))) (hl : l.length < 4294967296) :
    Ctr Tryd.prog 44 [IS l, .clo g [] caps] (.bool (l.any p)) := by
  refine ctr_of_wp hmix Tryd.func44 m44 rfl ?_
  unfold v44 IS
  simp -failIfUnchanged (disch := first | omega | (simp <;> omega) | fail) only [go_sem, simprocAttr]
  refine wcall (c56 l g caps p hp hl) ?_
  simp -failIfUnchanged (disch := first | omega | (simp <;> omega) | fail) only [go_sem, simprocAttr]
  rw [idxF_geq]

def areB (most : Int) (l : List Int) : Bool := !l.any fun n => !within n 0 most

theorem c62 (n most : Int) : Ctr Tryd.prog 62 [.int n, .ref 1 [.agg [.int most]] 0 0] (.bool (!within n 0 most)) := by
  refine ctr_of_wp hmix Tryd.func62 m62 rfl ?_
  unfold v62
  simp -failIfUnchanged (disch := first | omega | (simp <;> omega) | fail) only [go_sem, simprocAttr]
  refine wcall (c29 _ _ _) ?_
  simp -failIfUnchanged (disch := first | omega | (simp <;> omega) | fail) only [go_sem, simprocAttr]

theorem c55 (most : Int) (l : List Int) (hl : l.length < 4294967296) : Ctr Tryd.prog 55 [.int most, IS l] (.bool (areB most l)) := by
  refine ctr_of_wp hmix Tryd.func55 m55 rfl ?_
  unfold v55 IS
  simp -failIfUnchanged (disch := first | omega | (simp <;> omega) | fail) only [go_sem, simprocAttr]
  refine wcall (c44 l 62 _ (fun n => !within n 0 most) (fun x _ => c62 x most) hl) ?_
  simp -failIfUnchanged (disch := first | omega | (simp <;> omega) | fail) only [go_sem, simprocAttr]
  rfl

end Go.Proofs.YtpangdaijhiohaaDoor.Mo


/- Who is next: the program's and the document's. -/
set_option linter.unusedSimpArgs false
set_option linter.unusedVariables false
set_option linter.unnecessarySimpa false
namespace Go.Proofs.YtpangdaijhiohaaDoor.Mo
open Go Go.V

abbrev gC (b : Bx) (hs : List Int) : List AV := IS b.sh :: IS b.mo :: hs.map .int

theorem gC_get (b : Bx) (hs : List Int) (i : Nat) (h : i < hs.length) : (gC b hs)[2 + i]?.getD .und = .int (at0 hs i) := by
  rw [show 2 + i = i + 1 + 1 by omega]
  simp [h, at0]

theorem gC_set (b : Bx) (hs : List Int) (i : Nat) (x : Int) (h : i < hs.length) : setAt (gC b hs) (2 + i) [.int x] = gC b (hs.set i x) := by
  rw [show 2 + i = i + 1 + 1 by omega]
  simp only [setAt_s]
  congr 2
  induction hs generalizing i with
  | nil => simp at h
  | cons a r ih =>
    cases i with
    | zero => simp [setAt]
    | succ i => simp only [List.map_cons, setAt_s, List.set_cons_succ]; rw [ih i (by simpa using h)]

theorem prod_bd {s h : Int} (h1 : 0 ≤ s ∧ s ≤ 20) (h2 : 0 ≤ h ∧ h ≤ 100) : 0 ≤ s * (2 * h + 1) ∧ s * (2 * h + 1) ≤ 5000 := by
  have a := Int.mul_nonneg h1.1 (show 0 ≤ 2 * h + 1 by omega)
  have b : s * (2 * h + 1) ≤ 20 * (2 * h + 1) := Int.mul_le_mul_of_nonneg_right h1.2 (by omega)
  omega

theorem nxtF_lt (b : Bx) (hs : List Int) : ∀ k, nxtF b hs k = -1 ∨ ∃ r : Nat, nxtF b hs k = r ∧ r < k
  | 0 => .inl rfl
  | k + 1 => by
    rw [nxtF_succ]
    unfold nxt1
    have ih := nxtF_lt b hs k
    split
    · rcases ih with h | ⟨r, h, hr⟩
      · exact .inl h
      · exact .inr ⟨r, h, by omega⟩
    · split
      · exact .inr ⟨k, rfl, by omega⟩
      · rcases ih with h | ⟨r, h, hr⟩
        · exact .inl h
        · exact .inr ⟨r, h, by omega⟩

theorem c43 (b : Bx) (hv : BV b) (hs : List Int) (hl : hs.length = 5) (hb : ∀ i, 0 ≤ at0 hs i ∧ at0 hs i ≤ 100) : Ctr Tryd.prog 43 [.ref 7 [.agg (gC b hs)] 0 0] (.int (nxt b hs)) := by
  refine ctr_of_wp hmix Tryd.func43 m43 rfl ?_
  unfold v43
  have n5 := hv.n5
  have hmo := hv.len
  simp -failIfUnchanged (disch := first | omega | (simp <;> omega) | fail) only [go_sem, simprocAttr]
  refine wp_loop' Nat (fun i => ⟨[(0, .ref 7 [.agg (gC b hs)] 0 0), (3, .int (nxtF b hs i)), (10, IS b.sh), (11, .int b.sh.length), (12, .int i)], [], [], none⟩) (fun i => i ≤ b.sh.length) (fun i => b.sh.length - i) 0 (by simp) (by simp -failIfUnchanged (disch := first | omega | (simp <;> omega) | fail) only [go_sem, simprocAttr]; simp [nxtF]) ?_
  intro i hi
  simp -failIfUnchanged (disch := first | omega | (simp <;> omega) | fail) only [go_sem, simprocAttr]
  refine wcond_dec (fun h => ?_) (fun h => ?_)
  · have hlt : i < b.sh.length := by omega
    have hs0 := hv.s0 i hlt
    have hh0 := hb i
    have hsucc := nxtF_succ b hs i
    unfold nxt1 at hsucc
    simp -failIfUnchanged (disch := first | omega | (simp <;> omega) | fail) only [go_sem, simprocAttr]
    refine WGd_bool (fun h3 => ?_) (fun h3 => ?_)
    · have h3' : at0 b.sh i ≠ 0 := of_decide_eq_false h3
      simp -failIfUnchanged (disch := first | omega | (simp <;> omega) | fail) only [go_sem, simprocAttr, h3, gC_get]
      refine wcond_dec (fun h4 => ?_) (fun h4 => ?_)
      · rw [if_pos (.inr h4)] at hsucc
        simp -failIfUnchanged (disch := first | omega | (simp <;> omega) | fail) only [go_sem, simprocAttr]
        refine ⟨i + 1, by dsimp only; omega, by dsimp only; omega, ?_⟩
        dsimp only
        rw [hsucc]
        simp -failIfUnchanged (disch := first | omega | (simp <;> omega) | fail) only [go_sem, simprocAttr]
        try simp
      · rw [if_neg (fun c => c.elim h3' h4)] at hsucc
        simp -failIfUnchanged (disch := first | omega | (simp <;> omega) | fail) only [go_sem, simprocAttr]
        refine WGd_bool (fun h5 => ?_) (fun h5 => ?_)
        · have h5' : ¬ nxtF b hs i < 0 := by simpa using h5
          obtain ⟨r, hr, hri⟩ : ∃ r : Nat, nxtF b hs i = r ∧ r < i := by
            rcases nxtF_lt b hs i with h | h
            · omega
            · exact h
          have hsr := hv.s0 r (by omega)
          have hhr := hb r
          have p1 := prod_bd hs0 hhr
          have p2 := prod_bd hsr hh0
          rw [hr] at hsucc h5 ⊢
          have e1 : w64 (at0 b.sh r * (2 * at0 hs i + 1)) = at0 b.sh r * (2 * at0 hs i + 1) := w64_id (by omega)
          have e2 : w64 (at0 b.sh i * (2 * at0 hs r + 1)) = at0 b.sh i * (2 * at0 hs r + 1) := w64_id (by omega)
          rw [Int.toNat_natCast] at hsucc
          simp -failIfUnchanged (disch := first | omega | (simp <;> omega) | fail) only [go_sem, simprocAttr, h5, gC_get]
          rw [e1, e2]
          refine wcond_dec (fun h6 => ?_) (fun h6 => ?_)
          · rw [if_pos (.inr h6)] at hsucc
            simp -failIfUnchanged (disch := first | omega | (simp <;> omega) | fail) only [go_sem, simprocAttr]
            refine ⟨i + 1, by dsimp only; omega, by dsimp only; omega, ?_⟩
            dsimp only
            rw [hsucc]
            simp -failIfUnchanged (disch := first | omega | (simp <;> omega) | fail) only [go_sem, simprocAttr]
            try simp
          · rw [if_neg (by omega)] at hsucc
            simp -failIfUnchanged (disch := first | omega | (simp <;> omega) | fail) only [go_sem, simprocAttr]
            refine ⟨i + 1, by dsimp only; omega, by dsimp only; omega, ?_⟩
            dsimp only
            rw [hsucc]
            simp -failIfUnchanged (disch := first | omega | (simp <;> omega) | fail) only [go_sem, simprocAttr]
            try simp
        · rw [if_pos (.inl (by simpa using h5))] at hsucc
          simp -failIfUnchanged (disch := first | omega | (simp <;> omega) | fail) only [go_sem, simprocAttr, h5]
          refine ⟨i + 1, by dsimp only; omega, by dsimp only; omega, ?_⟩
          dsimp only
          rw [hsucc]
          simp -failIfUnchanged (disch := first | omega | (simp <;> omega) | fail) only [go_sem, simprocAttr]
          try simp
    · rw [if_pos (.inl (of_decide_eq_true h3))] at hsucc
      simp -failIfUnchanged (disch := first | omega | (simp <;> omega) | fail) only [go_sem, simprocAttr, h3]
      refine ⟨i + 1, by dsimp only; omega, by dsimp only; omega, ?_⟩
      dsimp only
      rw [hsucc]
      simp -failIfUnchanged (disch := first | omega | (simp <;> omega) | fail) only [go_sem, simprocAttr]
      try simp
  · simp -failIfUnchanged (disch := first | omega | (simp <;> omega) | fail) only [go_sem, simprocAttr]
    have e : i = b.sh.length := by omega
    rw [e]
    rfl

end Go.Proofs.YtpangdaijhiohaaDoor.Mo


/- The gauges: the program's and the document's. -/
set_option linter.unusedSimpArgs false
set_option linter.unusedVariables false
set_option linter.unnecessarySimpa false
namespace Go.Proofs.YtpangdaijhiohaaDoor.Mo
open Go Go.V

theorem zeros_ints (n : Nat) : zeros [.int 0] n = (List.replicate n (0 : Int)).map .int := by
  induction n with
  | zero => rfl
  | succ n ih => simp only [zeros, List.replicate_succ, List.map_cons, ih]; rfl

theorem setAt_ints {xs : List Int} {i : Nat} {x : Int} (h : i < xs.length) : setAt (xs.map .int) i [.int x] = (xs.set i x).map .int := by
  induction xs generalizing i with
  | nil => simp at h
  | cons w l ih =>
    cases i with
    | zero => rfl
    | succ i =>
      simp only [List.map_cons, setAt, List.set_cons_succ]
      rw [ih (by simpa using h)]

theorem map_ints {xs : List Int} {hp : List (Nat × BX)} : (xs.map AV.int).map (strip hp) = xs.map .int := by
  rw [List.map_map]
  rfl

theorem bids_ints {xs : List Int} : bids (xs.map AV.int) = [] := by
  induction xs with
  | nil => rfl
  | cons w l ih => simp only [List.map_cons, bids, AV.bid, AV.bid1, ih, List.append_nil]

theorem scopes_ints {τ : AS} {xs : List Int} : scopes τ (xs.map AV.int) = True := by
  induction xs with
  | nil => rfl
  | cons w l ih => simp only [List.map_cons, scopes, inScope, ih, and_self]

theorem chunks_ints {xs : List Int} {n : Nat} (h : n = xs.length) : chunks false 1 (xs.map AV.int) 0 n = xs.map .int := by
  subst h
  apply List.ext_getElem?
  intro i
  rcases Nat.lt_or_ge i xs.length with hi | hi
  · rw [chunks_get _ _ _ _ _ _ hi]
    simp [chunk, hi]
  · rw [List.getElem?_eq_none (by rw [chunks_length]; exact hi), List.getElem?_eq_none (by simpa using hi)]

theorem ints_get {xs : List Int} {i : Nat} (h : i < xs.length) : (xs.map AV.int)[i]?.getD .und = .int (xs[i]?.getD default) := by simp [h]

attribute [go_sem] ints_get zeros_ints setAt_ints map_ints bids_ints scopes_ints

theorem at0_has {b : Bx} (hv : BV b) (k i : Nat) : 0 ≤ at0 (hasL b k) i ∧ at0 (hasL b k) i ≤ 20 := by
  have hg := gd_has hv k
  rcases Nat.lt_or_ge i b.sh.length with h | h
  · have := hg.lo i h
    have := hv.m0 i h
    omega
  · have : at0 (hasL b k) i = 0 := by simp only [at0, List.getElem?_eq_none (show (hasL b k).length ≤ i by rw [hg.len]; exact h)]; rfl
    omega

theorem hasL_len {b : Bx} (hv : BV b) (k : Nat) : (hasL b k).length = b.sh.length := (gd_has hv k).len

/-- What a round does. -/
theorem hasL_succ {b : Bx} (hv : BV b) (k : Nat) : (nxt b (hasL b k) = -1 ∧ hasL b (k + 1) = hasL b k) ∨ ∃ r : Nat, nxt b (hasL b k) = r ∧ r < b.sh.length ∧ hasL b (k + 1) = (hasL b k).set r (at0 (hasL b k) r + 1) := by
  rcases nxt_spec hv (gd_has hv k) with ⟨e, _⟩ | ⟨r, e, hr, _⟩
  · refine .inl ⟨e, ?_⟩
    show inc _ _ = _
    rw [e, inc_neg]
  · refine .inr ⟨r, e, hr, ?_⟩
    show inc _ _ = _
    rw [e]
    unfold inc
    rw [if_neg (by omega), Int.toNat_natCast]

/-- The gates' numbers: five of them, those of no quarter 0. -/
theorem at0_app (h : List Int) (k i : Nat) : at0 (h ++ List.replicate k 0) i = at0 h i := by
  unfold at0
  rcases Nat.lt_or_ge i h.length with hl | hl
  · rw [List.getElem?_append_left hl]
  · rw [List.getElem?_append_right hl, List.getElem?_eq_none (l := h) hl, List.getElem?_replicate]
    split <;> rfl

theorem nxt_app (b : Bx) (h : List Int) (k : Nat) : nxt b (h ++ List.replicate k 0) = nxt b h := by
  unfold nxt nxtF
  congr 1
  funext x i
  unfold nxt1
  rw [at0_app, at0_app]

theorem c41 (b : Bx) (hv : BV b) (f : Nat) (hf : f ≤ 1000) : Ctr Tryd.prog 41 [MB b, .int f] (IS (hasL b f)) := by
  refine ctr_of_wp hmix Tryd.func41 m41 rfl ?_
  unfold v41
  have n5 := hv.n5
  simp -failIfUnchanged (disch := first | omega | (simp <;> omega) | fail) only [go_sem, simprocAttr]
  refine wp_range' ?_
  simp -failIfUnchanged (disch := first | omega | (simp <;> omega) | fail) only [go_sem, simprocAttr]
  refine wrange fun l T hT => ?_
  refine csem_of_wp hmix Tryd.func30 m30 rfl rfl ?_
  unfold v30
  simp -failIfUnchanged (disch := first | omega | (simp <;> omega) | fail) only [go_sem, simprocAttr]
  refine wp_loopX Nat (fun k => ⟨[(1, .yld l), (2, .ptr 1002 0), (4, .int k)],
    [(1002, ⟨gC b (hasL b k ++ List.replicate (5 - b.sh.length) 0), false⟩), (11, ⟨(hasL b k).map .int, false⟩), (5, ⟨[.bsl 11 0 1 b.sh.length false], false⟩), (3, ⟨[.int f], false⟩)], [], none⟩)
    (fun k => k ≤ f) (fun k => f - k) 0 (by simp) ?_ (fun x => by simp -failIfUnchanged (disch := first | omega | (simp <;> omega) | fail) only [go_sem, simprocAttr]) ?_
  · simp -failIfUnchanged (disch := first | omega | (simp <;> omega) | fail) only [go_sem, simprocAttr]
    refine ⟨?_, rfl⟩
    simp only [hasL, List.replicate_append_replicate, show b.sh.length + (5 - b.sh.length) = 5 by omega]
    rfl
  intro k hk
  have hk : k ≤ f := hk
  have hl := hasL_len hv k
  have hle : (b.sh.length ≤ (hasL b k).length) = True := eq_true (by omega)
  obtain ⟨hs, hse⟩ : ∃ hs, hs = hasL b k ++ List.replicate (5 - b.sh.length) 0 := ⟨_, rfl⟩
  have hsl : hs.length = 5 := by rw [hse]; simp; omega
  have hsa : ∀ i, at0 hs i = at0 (hasL b k) i := fun i => by rw [hse, at0_app]
  have hsn : nxt b hs = nxt b (hasL b k) := by rw [hse, nxt_app]
  have c43' := c43 b hv hs hsl fun i => by have := at0_has hv k i; rw [hsa]; omega
  rw [hsn] at c43'
  rw [← hse]
  simp -failIfUnchanged (disch := first | omega | (simp <;> omega) | fail) only [go_sem, simprocAttr, hsl]
  refine wcallb c43' rfl ?_
  simp -failIfUnchanged (disch := first | omega | (simp <;> omega) | fail) only [go_sem, simprocAttr]
  refine wyield (hT _ _ _ _ _ rfl ?_)
  simp -failIfUnchanged (disch := first | omega | (simp <;> omega) | fail) only [go_sem, simprocAttr]
  refine wcond_dec (fun h1 => ?_) (fun h1 => ?_)
  · simp -failIfUnchanged (disch := first | omega | (simp <;> omega) | fail) only [go_sem, simprocAttr]
    have e : k = f := by omega
    subst e
    simp -failIfUnchanged (disch := first | omega | (simp <;> omega) | fail) only [go_sem, simprocAttr, hle, chunks_ints]
  · rcases hasL_succ hv k with ⟨e, es⟩ | ⟨r, e, hr, es⟩
    · rw [e]
      simp -failIfUnchanged (disch := first | omega | (simp <;> omega) | fail) only [go_sem, simprocAttr]
      refine lpx_norm ⟨k + 1, by omega, by omega, ?_, by simp -failIfUnchanged (disch := first | omega | (simp <;> omega) | fail) only [go_sem, simprocAttr]⟩
      rw [es, ← hse]
      simp -failIfUnchanged (disch := first | omega | (simp <;> omega) | fail) only [go_sem, simprocAttr]
      try simp
    · have hbr : 0 ≤ (hasL b k)[r]?.getD default ∧ (hasL b k)[r]?.getD default ≤ 20 := at0_has hv k r
      have hbr2 : 0 ≤ at0 hs r ∧ at0 hs r ≤ 20 := by rw [hsa]; exact hbr
      have hset : hs.set r (at0 hs r + 1) = (hasL b k).set r (at0 (hasL b k) r + 1) ++ List.replicate (5 - b.sh.length) 0 := by
        rw [hsa, hse, List.set_append_left _ _ (by omega)]
      rw [e]
      simp -failIfUnchanged (disch := first | omega | (simp <;> omega) | fail) only [go_sem, simprocAttr, gC_get, gC_set]
      refine lpx_norm ⟨k + 1, by omega, by omega, ?_, by simp -failIfUnchanged (disch := first | omega | (simp <;> omega) | fail) only [go_sem, simprocAttr]⟩
      rw [es, ← hset]
      simp -failIfUnchanged (disch := first | omega | (simp <;> omega) | fail) only [go_sem, simprocAttr]
      try simp

end Go.Proofs.YtpangdaijhiohaaDoor.Mo


/- Check, Copy, sums; Gauges, Over, Turn. -/
set_option linter.unusedSimpArgs false
set_option linter.unusedVariables false
set_option linter.unnecessarySimpa false
namespace Go.Proofs.YtpangdaijhiohaaDoor.Mo
open Go Go.V

def checkB (b : Bx) : Bool := decide ((b.sh.length : Int) ≤ 5) && (decide ((b.mo.length : Int) = b.sh.length) && (areB 20 b.sh && areB 20 b.mo))

def farB (b : Bx) : Bool := decide (40 < (b.sh.length : Int)) || decide (40 < (b.mo.length : Int))

theorem within_iff {n lo hi : Int} : within n lo hi = true ↔ lo ≤ n ∧ n ≤ hi := by simp [within]

theorem ag27 : aggOf Tryd.prog 27 = some true := by kernel_rfl

theorem sz27 : szOf Tryd.prog 27 = some 2 := by kernel_rfl

theorem ag3 : aggOf Tryd.prog 3 = some false := by kernel_rfl

theorem ag29 : aggOf Tryd.prog 29 = some false := by kernel_rfl

theorem out1_eq {P : Program} {fr : List (Nat × AV)} {hp : List (Nat × BX)} {tk : List (Nat × Nat)} {pd : Option Ex} {t : Nat} {ty : TypeId} : out1 P ⟨fr, hp, tk, pd⟩ (.cell t ty) = (match get fr t with
    | .ptr b 0 => match getB hp b with
      | some ⟨cells, true⟩ => match aggOf P ty with
        | some true => if szOf P ty = some cells.length then .agg cells else .und
        | some false => match cells with
          | [x] => x
          | _ => .und
        | none => .und
      | _ => .und
    | _ => .und) := rfl

attribute [go_sem] ag27 sz27 ag3 ag29 out1_eq

theorem areB_iff {l : List Int} {m : Int} : areB m l = true ↔ ∀ i, i < l.length → 0 ≤ at0 l i ∧ at0 l i ≤ m := by
  simp only [areB, Bool.not_eq_true', List.any_eq_false]
  constructor
  · intro h i hi
    have := h _ (List.getElem_mem hi)
    rw [at0_lt hi]
    exact within_iff.1 (by simpa using this)
  · intro h x hx
    obtain ⟨i, hi, rfl⟩ := List.getElem_of_mem hx
    have := h i hi
    rw [at0_lt hi] at this
    simp [within_iff.2 this]

theorem val_of_check {b : Bx} (h : checkB b = true) : BV b := by
  simp only [checkB, Bool.and_eq_true, decide_eq_true_eq] at h
  obtain ⟨h1, h2, h3, h4⟩ := h
  exact ⟨by omega, by omega, areB_iff.1 h3, fun i hi => areB_iff.1 h4 i (by omega)⟩

theorem check_of_val {b : Bx} (h : BV b) : checkB b = true := by
  simp only [checkB, Bool.and_eq_true, decide_eq_true_eq]
  have := h.n5
  have h2 := h.len
  exact ⟨by omega, by omega, areB_iff.2 h.s0, areB_iff.2 fun i hi => h.m0 i (by omega)⟩

def errM (b : Bx) : Int := if checkB b then 0 else 70

theorem c42 (b : Bx) : Ctr Tryd.prog 42 [MB b] (.int (errM b)) := by
  refine ctr_of_wp hmix Tryd.func42 m42 rfl ?_
  unfold v42 errM checkB
  simp -failIfUnchanged (disch := first | omega | (simp <;> omega) | fail) only [go_sem, simprocAttr]
  refine WGd_bool (fun h1 => ?_) (fun h1 => ?_)
  · have h1' : (b.sh.length : Int) ≤ 5 := by simpa using h1
    simp -failIfUnchanged (disch := first | omega | (simp <;> omega) | fail) only [go_sem, simprocAttr, h1]
    refine WGd_bool (fun h2 => ?_) (fun h2 => ?_)
    · have h2' : (b.mo.length : Int) = b.sh.length := by simpa using h2
      have e1 : decide ((b.sh.length : Int) ≤ 5) = true := by simpa using h1'
      have e2 : decide ((b.mo.length : Int) = b.sh.length) = true := by simpa using h2'
      simp -failIfUnchanged (disch := first | omega | (simp <;> omega) | fail) only [go_sem, simprocAttr, h2]
      refine wcall (c55 20 b.sh (by omega)) ?_
      rw [e1, e2]
      cases h3 : areB 20 b.sh with
      | false => simp -failIfUnchanged (disch := first | omega | (simp <;> omega) | fail) only [go_sem, simprocAttr]
      | true =>
        simp -failIfUnchanged (disch := first | omega | (simp <;> omega) | fail) only [go_sem, simprocAttr]
        refine wcall (c55 20 b.mo (by omega)) ?_
        cases h4 : areB 20 b.mo with
        | false => simp -failIfUnchanged (disch := first | omega | (simp <;> omega) | fail) only [go_sem, simprocAttr]
        | true => simp -failIfUnchanged (disch := first | omega | (simp <;> omega) | fail) only [go_sem, simprocAttr]
    · have e2 : decide ((b.mo.length : Int) = b.sh.length) = false := by simpa using h2
      simp -failIfUnchanged (disch := first | omega | (simp <;> omega) | fail) only [go_sem, simprocAttr, h2]
      simp [e2]
  · have e1 : decide ((b.sh.length : Int) ≤ 5) = false := by simpa using h1
    simp -failIfUnchanged (disch := first | omega | (simp <;> omega) | fail) only [go_sem, simprocAttr, h1]
    simp [e1]

theorem areB_false {l : List Int} {i : Nat} (hi : i < l.length) (h : within (l[i]?.getD default) 0 20 = false) : areB 20 l = false := by
  simp only [areB, Bool.not_eq_false', List.any_eq_true]
  exact ⟨l[i]?.getD default, mem_getD hi, by rw [h]; rfl⟩

theorem c7 (b : Bx) : Ctr Tryd.prog 7 [MB b] (.int (errM b)) := by
  refine ctr_of_wp hmix Tryd.func7 m7 rfl ?_
  unfold v7 errM checkB
  simp -failIfUnchanged (disch := first | omega | (simp <;> omega) | fail) only [go_sem, simprocAttr]
  refine WGd_bool (fun h1 => ?_) (fun h1 => ?_)
  · have h1' : (b.sh.length : Int) ≤ 5 := by simpa using h1
    simp -failIfUnchanged (disch := first | omega | (simp <;> omega) | fail) only [go_sem, simprocAttr, h1]
    refine wcond_dec (fun h2 => ?_) (fun h2 => ?_)
    · have e2 : decide ((b.mo.length : Int) = b.sh.length) = false := by simpa using h2
      simp -failIfUnchanged (disch := first | omega | (simp <;> omega) | fail) only [go_sem, simprocAttr]
      simp [e2]
    · have h2' : (b.mo.length : Int) = b.sh.length := by simpa using h2
      have e1 : decide ((b.sh.length : Int) ≤ 5) = true := by simpa using h1'
      have e2 : decide ((b.mo.length : Int) = b.sh.length) = true := by simpa using h2'
      rw [e1, e2]
      simp -failIfUnchanged (disch := first | omega | (simp <;> omega) | fail) only [go_sem, simprocAttr]
      refine wp_loop' Nat (fun i => ⟨[(1, .ptr 1 0), (3, .int i)], [(1, ⟨[IS b.sh, IS b.mo], false⟩)], [], none⟩)
        (fun i => i ≤ b.sh.length ∧ (∀ x ∈ b.sh.take i, within x 0 20 = true) ∧ ∀ x ∈ b.mo.take i, within x 0 20 = true) (fun i => b.sh.length - i) 0 (by simp) (by simp -failIfUnchanged (disch := first | omega | (simp <;> omega) | fail) only [go_sem, simprocAttr]; try simp) ?_
      rintro i ⟨hi, g1, g2⟩
      simp -failIfUnchanged (disch := first | omega | (simp <;> omega) | fail) only [go_sem, simprocAttr]
      refine wcond_dec (fun hc => ?_) (fun hc => ?_)
      · have hlt : i < b.sh.length := by omega
        have hlt2 : i < b.mo.length := by omega
        simp -failIfUnchanged (disch := first | omega | (simp <;> omega) | fail) only [go_sem, simprocAttr]
        refine wcall (c22 _ _ _) ?_
        cases h3 : within (b.sh[i]?.getD default) 0 20 with
        | false =>
          simp -failIfUnchanged (disch := first | omega | (simp <;> omega) | fail) only [go_sem, simprocAttr]
          rw [areB_false hlt h3]
          rfl
        | true =>
          simp -failIfUnchanged (disch := first | omega | (simp <;> omega) | fail) only [go_sem, simprocAttr]
          refine wcall (c22 _ _ _) ?_
          cases h4 : within (b.mo[i]?.getD default) 0 20 with
          | false =>
            simp -failIfUnchanged (disch := first | omega | (simp <;> omega) | fail) only [go_sem, simprocAttr]
            rw [areB_false hlt2 h4]
            simp
          | true =>
            simp -failIfUnchanged (disch := first | omega | (simp <;> omega) | fail) only [go_sem, simprocAttr]
            refine ⟨i + 1, ⟨by omega, ?_, ?_⟩, by dsimp only; omega, ?_⟩
            · have := take_succ_all (p := fun x => !within x 0 20) hlt (fun x hx => by simp [g1 x hx]) (by simp only [h3]; rfl)
              intro x hx; simpa using this x hx
            · have := take_succ_all (p := fun x => !within x 0 20) hlt2 (fun x hx => by simp [g2 x hx]) (by simp only [h4]; rfl)
              intro x hx; simpa using this x hx
            · simp -failIfUnchanged (disch := first | omega | (simp <;> omega) | fail) only [go_sem, simprocAttr]
              try simp
      · simp -failIfUnchanged (disch := first | omega | (simp <;> omega) | fail) only [go_sem, simprocAttr]
        have e : i = b.sh.length := by omega
        rw [e, List.take_length] at g1
        rw [show i = b.mo.length by omega, List.take_length] at g2
        have a1 : areB 20 b.sh = true := by
          simp only [areB, Bool.not_eq_true', List.any_eq_false]
          intro x hx; simp [g1 x hx]
        have a2 : areB 20 b.mo = true := by
          simp only [areB, Bool.not_eq_true', List.any_eq_false]
          intro x hx; simp [g2 x hx]
        rw [a1, a2]
        rfl
  · have e1 : decide ((b.sh.length : Int) ≤ 5) = false := by simpa using h1
    simp -failIfUnchanged (disch := first | omega | (simp <;> omega) | fail) only [go_sem, simprocAttr, h1]
    simp [e1]

def askB (b : Bx) (is : Bool) : Int := if checkB b then if is then 0 else 1 else 70

theorem c28 (b : Bx) (is : Bool) : Ctr Tryd.prog 28 [MB b, .bool is] (.int (askB b is)) := by
  refine ctr_of_wp hmix Tryd.func28 m28 rfl ?_
  unfold v28 askB
  simp -failIfUnchanged (disch := first | omega | (simp <;> omega) | fail) only [go_sem, simprocAttr]
  refine wcall (c42 b) ?_
  unfold errM
  cases checkB b with
  | false => simp -failIfUnchanged (disch := first | omega | (simp <;> omega) | fail) only [go_sem, simprocAttr]; try simp
  | true =>
    cases is with
    | false => simp -failIfUnchanged (disch := first | omega | (simp <;> omega) | fail) only [go_sem, simprocAttr]; try simp
    | true => simp -failIfUnchanged (disch := first | omega | (simp <;> omega) | fail) only [go_sem, simprocAttr]; try simp

theorem c6 (b : Bx) : Ctr Tryd.prog 6 [MB b] (.bool (farB b)) := by
  refine ctr_of_wp hmix Tryd.func6 m6 rfl ?_
  unfold v6 farB
  simp -failIfUnchanged (disch := first | omega | (simp <;> omega) | fail) only [go_sem, simprocAttr]
  refine WGd_bool (fun h1 => ?_) (fun h1 => ?_)
  · simp -failIfUnchanged (disch := first | omega | (simp <;> omega) | fail) only [go_sem, simprocAttr, h1]
  · simp -failIfUnchanged (disch := first | omega | (simp <;> omega) | fail) only [go_sem, simprocAttr, h1]

/-- Sums of small numbers. -/
theorem sum_take_bd {l : List Int} (hl : l.length ≤ 100) (hb : ∀ x ∈ l, -1000 ≤ x ∧ x ≤ 1000) : ∀ i, i ≤ l.length → -1000 * (i : Int) ≤ sumI (l.take i) ∧ sumI (l.take i) ≤ 1000 * i := by
  intro i hi
  induction i with
  | zero => simp [sumI_nil]
  | succ i ih =>
    rw [List.take_add_one, List.getElem?_eq_getElem (by omega), sumI_app]
    have := hb _ (List.getElem_mem (l := l) (n := i) (by omega))
    have := ih (by omega)
    simp only [Option.toList_some, sumI_cons, sumI_nil]
    omega

theorem sum_take_succ {l : List Int} {i : Nat} (hi : i < l.length) : sumI (l.take (i + 1)) = sumI (l.take i) + l[i]?.getD default := by
  rw [List.take_add_one, List.getElem?_eq_getElem hi, sumI_app]
  simp only [Option.toList_some, sumI_cons, sumI_nil, Option.getD_some]
  omega

theorem c27 (l : List Int) (hl : l.length ≤ 100) (hb : ∀ x ∈ l, -1000 ≤ x ∧ x ≤ 1000) : Ctr Tryd.prog 27 [IS l] (.int (sumI l)) := by
  refine ctr_of_wp hmix Tryd.func27 m27 rfl ?_
  unfold v27 IS
  simp -failIfUnchanged (disch := first | omega | (simp <;> omega) | fail) only [go_sem, simprocAttr]
  refine wp_loop' Nat (fun i => ⟨[(3, .int (sumI (l.take i))), (6, IS l), (7, .int l.length), (8, .int i)], [], [], none⟩) (fun i => i ≤ l.length) (fun i => l.length - i) 0 (by simp) (by unfold IS; simp -failIfUnchanged (disch := first | omega | (simp <;> omega) | fail) only [go_sem, simprocAttr]; try rfl) ?_
  intro i hi
  have hi : i ≤ l.length := hi
  unfold IS
  simp -failIfUnchanged (disch := first | omega | (simp <;> omega) | fail) only [go_sem, simprocAttr]
  refine wcond_dec (fun h => ?_) (fun h => ?_)
  · have hlt : i < l.length := by omega
    have s1 := sum_take_bd hl hb i hi
    have s2 := hb _ (mem_getD hlt)
    simp -failIfUnchanged (disch := first | omega | (simp <;> omega) | fail) only [go_sem, simprocAttr]
    refine ⟨i + 1, by dsimp only; omega, by dsimp only; omega, ?_⟩
    dsimp only
    rw [sum_take_succ hlt]
    simp -failIfUnchanged (disch := first | omega | (simp <;> omega) | fail) only [go_sem, simprocAttr]
    try simp
  · simp -failIfUnchanged (disch := first | omega | (simp <;> omega) | fail) only [go_sem, simprocAttr]
    have e : i = l.length := by omega
    rw [e, List.take_length]

/-- The sum of what all quarters have. -/
theorem has_mem {b : Bx} (hv : BV b) (k : Nat) : (hasL b k).length ≤ 100 ∧ ∀ x ∈ hasL b k, -1000 ≤ x ∧ x ≤ 1000 := by
  have hl := hasL_len hv k
  have := hv.n5
  refine ⟨by omega, fun x hx => ?_⟩
  obtain ⟨i, hi, rfl⟩ := List.getElem_of_mem hx
  have := at0_has hv k i
  rw [at0_lt hi] at this
  omega

/-- Gauges, Over and Turn as both say. -/
def gauR (b : Bx) (f : Int) : AV := let e := askB b (within f 0 40); .tup [IS (if e = 0 then hasL b f.toNat else []), .int e]

def ovrR (b : Bx) (f : Int) : AV := let e := askB b (within f 0 40); .tup [.int (if e = 0 then f - sumI (hasL b f.toNat) else 0), .int e]

def trnR (b : Bx) (g : Int) : AV := let e := askB b (within g 0 39); if e = 0 then (if 0 ≤ nxt b (hasL b g.toNat) then .tup [.int (nxt b (hasL b g.toNat)), .int 0] else .tup [.int 0, .int 3]) else .tup [.int 0, .int e]

theorem askB_0 {b : Bx} {is : Bool} : askB b is = 0 ↔ checkB b = true ∧ is = true := by
  unfold askB
  cases checkB b <;> cases is <;> simp

theorem c25 (b : Bx) (f : Int) : Ctr Tryd.prog 25 [MB b, .int f] (gauR b f) := by
  refine ctr_of_wp hmix Tryd.func25 m25 rfl ?_
  unfold v25 gauR
  simp -failIfUnchanged (disch := first | omega | (simp <;> omega) | fail) only [go_sem, simprocAttr]
  refine wcall (c40 f) ?_
  simp -failIfUnchanged (disch := first | omega | (simp <;> omega) | fail) only [go_sem, simprocAttr]
  refine wcall (c28 b _) ?_
  simp -failIfUnchanged (disch := first | omega | (simp <;> omega) | fail) only [go_sem, simprocAttr]
  refine wcond_dec (fun h => ?_) (fun h => ?_)
  · simp -failIfUnchanged (disch := first | omega | (simp <;> omega) | fail) only [go_sem, simprocAttr]
    simp [h]
  · have h' : askB b (within f 0 40) = 0 := by simpa using h
    obtain ⟨h1, h2⟩ := askB_0.1 h'
    rw [within_iff] at h2
    obtain ⟨n, rfl⟩ : ∃ n : Nat, f = n := ⟨f.toNat, by omega⟩
    simp -failIfUnchanged (disch := first | omega | (simp <;> omega) | fail) only [go_sem, simprocAttr]
    refine wcall (c41 b (val_of_check h1) n (by omega)) ?_
    simp -failIfUnchanged (disch := first | omega | (simp <;> omega) | fail) only [go_sem, simprocAttr]
    simp [h']

theorem c11 (b : Bx) (f : Int) : Ctr Tryd.prog 11 [MB b, .int f] (ovrR b f) := by
  refine ctr_of_wp hmix Tryd.func11 m11 rfl ?_
  unfold v11 ovrR
  simp -failIfUnchanged (disch := first | omega | (simp <;> omega) | fail) only [go_sem, simprocAttr]
  have c25' := c25 b f
  unfold gauR at c25'
  by_cases h : askB b (within f 0 40) = 0
  · obtain ⟨h1, h2⟩ := askB_0.1 h
    rw [within_iff] at h2
    have hv := val_of_check h1
    obtain ⟨n, rfl⟩ : ∃ n : Nat, f = n := ⟨f.toNat, by omega⟩
    obtain ⟨k1, k2⟩ := has_mem hv n
    have hs := sum_has hv n
    simp only [h, if_true, Int.toNat_natCast] at c25' ⊢
    refine wcall c25' ?_
    simp -failIfUnchanged (disch := first | omega | (simp <;> omega) | fail) only [go_sem, simprocAttr]
    refine wcall (c27 _ k1 k2) ?_
    simp -failIfUnchanged (disch := first | omega | (simp <;> omega) | fail) only [go_sem, simprocAttr]
  · have e : decide (askB b (within f 0 40) = 0) = false := by simpa using h
    simp only [h, if_false] at c25' ⊢
    refine wcall c25' ?_
    simp -failIfUnchanged (disch := first | omega | (simp <;> omega) | fail) only [go_sem, simprocAttr, e, h, not_false_eq_true]

theorem c12 (b : Bx) (f : Int) : Ctr Tryd.prog 12 [MB b, .int f] (trnR b f) := by
  refine ctr_of_wp hmix Tryd.func12 m12 rfl ?_
  unfold v12 trnR
  simp -failIfUnchanged (disch := first | omega | (simp <;> omega) | fail) only [go_sem, simprocAttr]
  refine wcall (c29 f 0 39) ?_
  simp -failIfUnchanged (disch := first | omega | (simp <;> omega) | fail) only [go_sem, simprocAttr]
  refine wcall (c28 b _) ?_
  simp -failIfUnchanged (disch := first | omega | (simp <;> omega) | fail) only [go_sem, simprocAttr]
  refine wcond_dec (fun h => ?_) (fun h => ?_)
  · simp -failIfUnchanged (disch := first | omega | (simp <;> omega) | fail) only [go_sem, simprocAttr]
    simp [h]
  · have h' : askB b (within f 0 39) = 0 := by simpa using h
    obtain ⟨h1, h2⟩ := askB_0.1 h'
    rw [within_iff] at h2
    have hv := val_of_check h1
    have n5 := hv.n5
    obtain ⟨n, rfl⟩ : ∃ n : Nat, f = n := ⟨f.toNat, by omega⟩
    rw [if_pos h', Int.toNat_natCast]
    simp -failIfUnchanged (disch := first | omega | (simp <;> omega) | fail) only [go_sem, simprocAttr]
    refine wp_range' ?_
    simp -failIfUnchanged (disch := first | omega | (simp <;> omega) | fail) only [go_sem, simprocAttr]
    refine wrange fun l T hT => ?_
    refine csem_of_wp hmix Tryd.func30 m30 rfl rfl ?_
    unfold v30
    simp -failIfUnchanged (disch := first | omega | (simp <;> omega) | fail) only [go_sem, simprocAttr]
    refine wp_loopX Nat (fun k => ⟨[(1, .yld l), (2, .ptr 1002 0), (4, .int k)],
      [(1002, ⟨gC b (hasL b k ++ List.replicate (5 - b.sh.length) 0), false⟩), (5, ⟨[.int 0], false⟩), (4, ⟨[.int 0], false⟩), (3, ⟨[.int n], false⟩)], [], none⟩)
      (fun k => k ≤ n) (fun k => n - k) 0 (by simp) ?_ (fun x => by simp -failIfUnchanged (disch := first | omega | (simp <;> omega) | fail) only [go_sem, simprocAttr]) ?_
    · simp -failIfUnchanged (disch := first | omega | (simp <;> omega) | fail) only [go_sem, simprocAttr]
      simp only [hasL, List.replicate_append_replicate, show b.sh.length + (5 - b.sh.length) = 5 by omega]
      rfl
    intro k hk
    have hk : k ≤ n := hk
    have hl := hasL_len hv k
    obtain ⟨hs, hse⟩ : ∃ hs, hs = hasL b k ++ List.replicate (5 - b.sh.length) 0 := ⟨_, rfl⟩
    have hsl : hs.length = 5 := by rw [hse]; simp; omega
    have hsa : ∀ i, at0 hs i = at0 (hasL b k) i := fun i => by rw [hse, at0_app]
    have hsn : nxt b hs = nxt b (hasL b k) := by rw [hse, nxt_app]
    have c43' := c43 b hv hs hsl fun i => by have := at0_has hv k i; rw [hsa]; omega
    rw [hsn] at c43'
    rw [← hse]
    simp -failIfUnchanged (disch := first | omega | (simp <;> omega) | fail) only [go_sem, simprocAttr, hsl]
    refine wcallb c43' rfl ?_
    simp -failIfUnchanged (disch := first | omega | (simp <;> omega) | fail) only [go_sem, simprocAttr]
    refine wyield (hT _ _ _ _ _ rfl ?_)
    simp -failIfUnchanged (disch := first | omega | (simp <;> omega) | fail) only [go_sem, simprocAttr]
    refine WGd_bool (fun h3 => ?_) (fun h3 => ?_)
    · have h3' : (k : Int) = n := of_decide_eq_true h3
      have e : k = n := by omega
      subst e
      simp -failIfUnchanged (disch := first | omega | (simp <;> omega) | fail) only [go_sem, simprocAttr, h3]
      refine wcond_dec (fun h4 => ?_) (fun h4 => ?_)
      · rw [if_pos h4]
        simp -failIfUnchanged (disch := first | omega | (simp <;> omega) | fail) only [go_sem, simprocAttr]
      · rw [if_neg h4]
        simp -failIfUnchanged (disch := first | omega | (simp <;> omega) | fail) only [go_sem, simprocAttr, h3]
    · have h3' : ¬ (k : Int) = n := of_decide_eq_false h3
      simp -failIfUnchanged (disch := first | omega | (simp <;> omega) | fail) only [go_sem, simprocAttr, h3]
      rcases hasL_succ hv k with ⟨e, es⟩ | ⟨r, e, hr, es⟩
      · rw [e]
        simp -failIfUnchanged (disch := first | omega | (simp <;> omega) | fail) only [go_sem, simprocAttr]
        refine lpx_norm ⟨k + 1, by omega, by omega, ?_, by simp -failIfUnchanged (disch := first | omega | (simp <;> omega) | fail) only [go_sem, simprocAttr]⟩
        rw [es, ← hse]
        simp -failIfUnchanged (disch := first | omega | (simp <;> omega) | fail) only [go_sem, simprocAttr]
        try simp
      · have hbr2 : 0 ≤ at0 hs r ∧ at0 hs r ≤ 20 := by rw [hsa]; exact at0_has hv k r
        have hset : hs.set r (at0 hs r + 1) = (hasL b k).set r (at0 (hasL b k) r + 1) ++ List.replicate (5 - b.sh.length) 0 := by
          rw [hsa, hse, List.set_append_left _ _ (by omega)]
        rw [e]
        simp -failIfUnchanged (disch := first | omega | (simp <;> omega) | fail) only [go_sem, simprocAttr, gC_get, gC_set]
        refine lpx_norm ⟨k + 1, by omega, by omega, ?_, by simp -failIfUnchanged (disch := first | omega | (simp <;> omega) | fail) only [go_sem, simprocAttr]⟩
        rw [es, ← hset]
        simp -failIfUnchanged (disch := first | omega | (simp <;> omega) | fail) only [go_sem, simprocAttr]
        try simp

end Go.Proofs.YtpangdaijhiohaaDoor.Mo


/- The program's remainders: a sort in place. -/
set_option linter.unusedSimpArgs false
set_option linter.unusedVariables false
set_option linter.unnecessarySimpa false
namespace Go.Proofs.YtpangdaijhiohaaDoor.Mo
open Go Go.V

theorem tidy_ints {xs : List Int} {hp : List (Nat × BX)} : (xs.map AV.int).map (tidy hp) = xs.map .int := by
  rw [List.map_map]
  rfl

attribute [go_sem] tidy_ints

end Go.Proofs.YtpangdaijhiohaaDoor.Mo


/- Remainders, Paradox, Differ, Exact of the program; works. -/
set_option linter.unusedSimpArgs false
set_option linter.unusedVariables false
set_option linter.unnecessarySimpa false
namespace Go.Proofs.YtpangdaijhiohaaDoor.Mo
open Go Go.V

/-- The first number of which something is so. -/
def fst (p : Nat → Bool) (n : Nat) : Option Nat := (List.range n).find? p

structure Pr where
  a : Int
  b : Int
  deriving Inhabited, DecidableEq

/-- In lowest terms. -/
def low (n d : Nat) : Pr := ⟨((n / Nat.gcd n d : Nat) : Int), ((d / Nat.gcd n d : Nat) : Int)⟩

def bxM : Bx := ⟨[5, 3, 1], [9, 9, 9]⟩

def bxN : Bx := ⟨[5, 3, 1], [2, 1, 0]⟩

theorem c24 : Ctr Tryd.prog 24 [] (.tup [MB bxM, MB bxN]) := by
  refine ctr_of_wp hmix Tryd.func24 m24 rfl ?_
  unfold v24
  simp -failIfUnchanged (disch := first | omega | (simp <;> omega) | fail) only [go_sem, simprocAttr]
  simp [bxM, bxN]

end Go.Proofs.YtpangdaijhiohaaDoor.Mo


/- MouthsGauges, MouthsAll, MouthsWorth. -/
set_option linter.unusedSimpArgs false
set_option linter.unusedVariables false
set_option linter.unnecessarySimpa false
namespace Go.Proofs.YtpangdaijhiohaaDoor.Mo
open Go Go.V

end Go.Proofs.YtpangdaijhiohaaDoor.Mo


/- Shared, Wider: a box in which one number is another one. -/
set_option linter.unusedSimpArgs false
set_option linter.unusedVariables false
set_option linter.unnecessarySimpa false
namespace Go.Proofs.YtpangdaijhiohaaDoor.Mo
open Go Go.V

theorem flat_ints (xs : List Int) : flat (xs.map AV.int) = xs.map .int := by
  induction xs with
  | nil => rfl
  | cons x r ih => simp only [List.map_cons, flat, cells_int, ih]; rfl

attribute [go_sem] flat_ints

end Go.Proofs.YtpangdaijhiohaaDoor.Mo


/- MouthsAll, MouthsWorth, MouthsAlike. -/
set_option linter.unusedSimpArgs false
set_option linter.unusedVariables false
set_option linter.unnecessarySimpa false
namespace Go.Proofs.YtpangdaijhiohaaDoor.Mo
open Go Go.V

end Go.Proofs.YtpangdaijhiohaaDoor.Mo


/- MouthsWorth, MouthsAlike. -/
set_option linter.unusedSimpArgs false
set_option linter.unusedVariables false
set_option linter.unnecessarySimpa false
namespace Go.Proofs.YtpangdaijhiohaaDoor.Mo
open Go Go.V

end Go.Proofs.YtpangdaijhiohaaDoor.Mo


/- MouthsMosts. -/
set_option linter.unusedSimpArgs false
set_option linter.unusedVariables false
set_option linter.unnecessarySimpa false
namespace Go.Proofs.YtpangdaijhiohaaDoor.Mo
open Go Go.V

end Go.Proofs.YtpangdaijhiohaaDoor.Mo


/- MouthsShares. -/
set_option linter.unusedSimpArgs false
set_option linter.unusedVariables false
set_option linter.unnecessarySimpa false
namespace Go.Proofs.YtpangdaijhiohaaDoor.Mo
open Go Go.V

end Go.Proofs.YtpangdaijhiohaaDoor.Mo


/- MouthsSome. -/
set_option linter.unusedSimpArgs false
set_option linter.unusedVariables false
set_option linter.unnecessarySimpa false
namespace Go.Proofs.YtpangdaijhiohaaDoor.Mo
open Go Go.V

end Go.Proofs.YtpangdaijhiohaaDoor.Mo


/- MouthsRounding. -/
set_option linter.unusedSimpArgs false
set_option linter.unusedVariables false
set_option linter.unnecessarySimpa false
namespace Go.Proofs.YtpangdaijhiohaaDoor.Mo
open Go Go.V

end Go.Proofs.YtpangdaijhiohaaDoor.Mo


/- RemaindersOf, Remainders, Paradox, Differ of the document; Differ of the program. -/
set_option linter.unusedSimpArgs false
set_option linter.unusedVariables false
set_option linter.unnecessarySimpa false
namespace Go.Proofs.YtpangdaijhiohaaDoor.Mo
open Go Go.V

end Go.Proofs.YtpangdaijhiohaaDoor.Mo


/- MouthsParadox; Exact and Served; MouthsExact. -/
set_option linter.unusedSimpArgs false
set_option linter.unusedVariables false
set_option linter.unnecessarySimpa false
namespace Go.Proofs.YtpangdaijhiohaaDoor.Mo
open Go Go.V

end Go.Proofs.YtpangdaijhiohaaDoor.Mo


/- From, Between; the document's Need. -/
set_option linter.unusedSimpArgs false
set_option linter.unusedVariables false
set_option linter.unnecessarySimpa false
namespace Go.Proofs.YtpangdaijhiohaaDoor.Mo
open Go Go.V

end Go.Proofs.YtpangdaijhiohaaDoor.Mo


/- Need of the program; MouthsFrom. -/
set_option linter.unusedSimpArgs false
set_option linter.unusedVariables false
set_option linter.unnecessarySimpa false
namespace Go.Proofs.YtpangdaijhiohaaDoor.Mo
open Go Go.V

end Go.Proofs.YtpangdaijhiohaaDoor.Mo


/- MouthsBack. -/
set_option linter.unusedSimpArgs false
set_option linter.unusedVariables false
set_option linter.unnecessarySimpa false
namespace Go.Proofs.YtpangdaijhiohaaDoor.Mo
open Go Go.V

structure Later (T : Prop) : Prop where
  out : T

end Go.Proofs.YtpangdaijhiohaaDoor.Mo


/- Comparing ways; copies. -/
set_option linter.unusedSimpArgs false
set_option linter.unusedVariables false
set_option linter.unnecessarySimpa false
namespace Go.Proofs.YtpangdaijhiohaaDoor.Bd
open Go Go.V Mo

def cmpI (a b : Int) : Int := if a < b then -1 else if b < a then 1 else 0

theorem c63 (n : Int) : Ctr Tryd.prog 63 [.int n] (.bool false) := by
  refine ctr_of_wp hmix Tryd.func63 m63 rfl ?_
  unfold v63
  simp -failIfUnchanged (disch := first | omega | (simp <;> omega) | fail) only [go_sem, simprocAttr]
  try simp

theorem c58 (a b : Int) : Ctr Tryd.prog 58 [.int a, .int b] (.int (cmpI a b)) := by
  refine ctr_of_wp hmix Tryd.func58 m58 rfl ?_
  unfold v58 cmpI
  simp -failIfUnchanged (disch := first | omega | (simp <;> omega) | fail) only [go_sem, simprocAttr]
  refine wcall (c63 a) ?_
  simp -failIfUnchanged (disch := first | omega | (simp <;> omega) | fail) only [go_sem, simprocAttr]
  refine wcall (c63 b) ?_
  simp -failIfUnchanged (disch := first | omega | (simp <;> omega) | fail) only [go_sem, simprocAttr]
  refine wcond_dec (fun h => ?_) (fun h => ?_)
  · simp -failIfUnchanged (disch := first | omega | (simp <;> omega) | fail) only [go_sem, simprocAttr, h]
  · simp -failIfUnchanged (disch := first | omega | (simp <;> omega) | fail) only [go_sem, simprocAttr, h]
    refine wcond_dec (fun h2 => ?_) (fun h2 => ?_)
    · simp -failIfUnchanged (disch := first | omega | (simp <;> omega) | fail) only [go_sem, simprocAttr, h, h2]
    · simp -failIfUnchanged (disch := first | omega | (simp <;> omega) | fail) only [go_sem, simprocAttr, h, h2]

/-- The first one that is not 0. -/
def orF (l : List Int) : Int := (l.find? fun x => x != 0).getD 0

theorem orF_hit {l : List Int} {i : Nat} (hi : i < l.length) (h : ∀ j, j < i → l[j]?.getD default = 0) (hx : l[i]?.getD default ≠ 0) : orF l = l[i]?.getD default := by
  have e : l[i]?.getD default = l[i] := by simp [hi]
  rw [e] at hx ⊢
  have : l.find? (fun x => x != 0) = some l[i] := by
    rw [List.find?_eq_some_iff_getElem]
    refine ⟨by simpa using hx, i, hi, rfl, fun j hj => ?_⟩
    have := h j hj
    simpa [Nat.lt_trans hj hi] using this
  unfold orF
  rw [this]
  rfl
theorem orF_none {l : List Int} (h : ∀ j, j < l.length → l[j]?.getD default = 0) : orF l = 0 := by
  have : l.find? (fun x => x != 0) = none := by
    rw [List.find?_eq_none]
    intro x hx
    obtain ⟨j, hj, rfl⟩ := List.getElem_of_mem hx
    have := h j hj
    simpa [hj] using this
  unfold orF
  rw [this]
  rfl

theorem c57 (l : List Int) (hl : l.length < 1000000) : Ctr Tryd.prog 57 [IS l] (.int (orF l)) := by
  refine ctr_of_wp hmix Tryd.func57 m57 rfl ?_
  unfold v57
  simp -failIfUnchanged (disch := first | omega | (simp <;> omega) | fail) only [go_sem, simprocAttr]
  refine wp_loop' Nat (fun i => ⟨[(3, .int 0), (6, IS l), (7, .int l.length), (8, .int i)], [], [], none⟩) (fun i => i ≤ l.length ∧ ∀ j, j < i → l[j]?.getD default = 0) (fun i => l.length - i) 0 (by simp) (by simp -failIfUnchanged (disch := first | omega | (simp <;> omega) | fail) only [go_sem, simprocAttr]; try simp) ?_
  rintro i ⟨h1, h2⟩
  simp -failIfUnchanged (disch := first | omega | (simp <;> omega) | fail) only [go_sem, simprocAttr]
  refine wcond_dec (fun h => ?_) (fun h => ?_)
  · have hlt : i < l.length := by omega
    simp -failIfUnchanged (disch := first | omega | (simp <;> omega) | fail) only [go_sem, simprocAttr]
    refine wcond_dec (fun hx => ?_) (fun hx => ?_)
    · rw [orF_hit hlt h2 hx]
      simp -failIfUnchanged (disch := first | omega | (simp <;> omega) | fail) only [go_sem, simprocAttr]
    · have hx' : l[i]?.getD default = 0 := by simpa using hx
      simp -failIfUnchanged (disch := first | omega | (simp <;> omega) | fail) only [go_sem, simprocAttr]
      refine ⟨i + 1, ⟨by omega, fun j hj => ?_⟩, by dsimp only; omega, ?_⟩
      · rcases Nat.lt_or_ge j i with h3 | h3
        · exact h2 j h3
        · obtain rfl : j = i := by omega
          exact hx'
      · simp -failIfUnchanged (disch := first | omega | (simp <;> omega) | fail) only [go_sem, simprocAttr]
        try simp
  · have e : i = l.length := by omega
    subst e
    rw [orF_none h2]
    simp -failIfUnchanged (disch := first | omega | (simp <;> omega) | fail) only [go_sem, simprocAttr]

/-- A way, as it stands in memory. -/
abbrev WY (h w : Int) : AV := .agg [.int h, .int w]

theorem c50 (a b c d : Int) : Ctr Tryd.prog 50 [WY a b, WY c d] (.int (orF [cmpI a c, cmpI b d])) := by
  refine ctr_of_wp hmix Tryd.func50 m50 rfl ?_
  unfold v50
  simp -failIfUnchanged (disch := first | omega | (simp <;> omega) | fail) only [go_sem, simprocAttr]
  refine wcall (c58 _ _) ?_
  simp -failIfUnchanged (disch := first | omega | (simp <;> omega) | fail) only [go_sem, simprocAttr]
  refine wcall (c58 _ _) ?_
  simp -failIfUnchanged (disch := first | omega | (simp <;> omega) | fail) only [go_sem, simprocAttr]
  refine wcall (c57 [cmpI a c, cmpI b d] (by simp)) ?_
  simp -failIfUnchanged (disch := first | omega | (simp <;> omega) | fail) only [go_sem, simprocAttr]

/-- A way comes ahead of another one. -/
def befW (a b c d : Int) : Bool := decide (a < c) || (decide (a = c) && decide (b < d))
theorem cmp_bef (a b c d : Int) : decide (0 ≤ orF [cmpI a c, cmpI b d]) = !befW a b c d := by
  have e : orF [cmpI a c, cmpI b d] = if cmpI a c = 0 then cmpI b d else cmpI a c := by
    unfold orF
    by_cases h1 : cmpI a c = 0
    · by_cases h2 : cmpI b d = 0
      · simp [h1, h2]
      · simp [h1, h2]
    · simp [h1]
  rw [e]
  unfold cmpI befW
  by_cases h1 : a < c
  · simp [h1]
  · by_cases h2 : a = c
    · subst h2
      by_cases h3 : b < d
      · simp [h3]
      · simp [h3]
        split <;> omega
    · have : c < a := by omega
      simp [h1, h2, this]

theorem c39 (a b c d : Int) : Ctr Tryd.prog 39 [WY a b, WY c d] (.bool (befW a b c d)) := by
  refine ctr_of_wp hmix Tryd.func39 m39 rfl ?_
  unfold v39 befW
  simp -failIfUnchanged (disch := first | omega | (simp <;> omega) | fail) only [go_sem, simprocAttr]
  refine WGd_bool (fun h => ?_) (fun h => ?_)
  · simp -failIfUnchanged (disch := first | omega | (simp <;> omega) | fail) only [go_sem, simprocAttr, h]
    refine WGd_bool (fun h2 => ?_) (fun h2 => ?_)
    · simp -failIfUnchanged (disch := first | omega | (simp <;> omega) | fail) only [go_sem, simprocAttr, h, h2]
      try simp
    · simp -failIfUnchanged (disch := first | omega | (simp <;> omega) | fail) only [go_sem, simprocAttr, h, h2]
      try simp
  · simp -failIfUnchanged (disch := first | omega | (simp <;> omega) | fail) only [go_sem, simprocAttr, h]
    try simp

theorem c46 (n lo hi : Int) : Ctr Tryd.prog 46 [.int n, .int lo, .int hi] (.bool (within n lo hi)) := by
  refine ctr_of_wp hmix Tryd.func46 m46 rfl ?_
  unfold v46
  simp -failIfUnchanged (disch := first | omega | (simp <;> omega) | fail) only [go_sem, simprocAttr]
  refine WGd_bool (fun h => ?_) (fun h => ?_)
  · simp -failIfUnchanged (disch := first | omega | (simp <;> omega) | fail) only [go_sem, simprocAttr, h]
    simp only [decide_eq_true_eq] at h
    simp [within, h]
  · simp -failIfUnchanged (disch := first | omega | (simp <;> omega) | fail) only [go_sem, simprocAttr, h]
    simp only [Bool.not_true, decide_eq_false_iff_not] at h
    simp [within, h]

theorem c31 (n lo hi : Int) : Ctr Tryd.prog 31 [.int n, .int lo, .int hi] (.bool (within n lo hi)) := by
  refine ctr_of_wp hmix Tryd.func31 m31 rfl ?_
  unfold v31
  simp -failIfUnchanged (disch := first | omega | (simp <;> omega) | fail) only [go_sem, simprocAttr]
  refine wcall (c8 _ _ _) ?_
  simp -failIfUnchanged (disch := first | omega | (simp <;> omega) | fail) only [go_sem, simprocAttr]

end Go.Proofs.YtpangdaijhiohaaDoor.Bd

