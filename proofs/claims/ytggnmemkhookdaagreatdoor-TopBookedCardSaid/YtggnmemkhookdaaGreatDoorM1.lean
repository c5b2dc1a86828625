/- Merged by program: V0, V1, V2, V3, V4, V5, V6, V7, V8, V9, V10, V11. -/
import Derived.Maps.Keyed
import Derived.RangeFuncRecord
import Derived.Laws.AppendOwn
import Derived.Laws.MakeOwn
import Derived.Laws.NewBlocks
import Derived.Laws.Build
import Derived.Laws.StructEq
import Derived.Orders
import Derived.Scope
import Derived.Below
import Derived.Deep.LoopGhost
import Derived.RangeFuncFrom
import Derived.RangeFuncLeaves
import Derived.TacticsIn
import Derived.OrdersIn
import Derived.Sort.LoopGhostIn
import Derived.Laws.CopyRow
set_option linter.unusedSimpArgs false
set_option linter.unusedVariables false
set_option linter.unnecessarySimpa false
namespace Go.V
open Go Go.WideShapes
def inR (y : Int) : Prop := -9223372036854775808 ≤ y ∧ y ≤ 9223372036854775807
def kval (xs : List Int) : Value := .agg (xs.map (Value.int .i64)).toArray
structure MapIs (es : Array MapEntry) (ck n : Nat) (kv : List (List Int × Int)) : Prop where
 eq : (es.toList.map fun e => (e.key, e.val)) = kv.map fun p => (kval p.1, Value.int .i64 p.2)
 wf : ∀ p ∈ kv, p.1.length = n ∧ ∀ y ∈ p.1, inR y
 nd : (kv.map (·.1)).Nodup
 sd : (es.toList.map (·.born)).Nodup
 sl : ∀ e ∈ es.toList, e.born < ck
def kvget (kv : List (List Int × Int)) (xs : List Int) : Int := match kv.find? (fun p => p.1 == xs) with | some p => p.2 | none => 0
def kvset (kv : List (List Int × Int)) (xs : List Int) (z : Int) : List (List Int × Int) := if xs ∈ kv.map (·.1) then kv.map (fun p => if p.1 = xs then (xs, z) else p) else kv ++ [(xs, z)]
def MKey (P : Program) (t : TypeId) (n : Nat) : Prop := ∃ k e, P.underlying t = some (.map k e) ∧ Maps.Keyed P k ∧
 (∀ xs : List Int, xs.length = n → (∀ y ∈ xs, inR y) → ∃ l, keyOf P k (kval xs) = some l) ∧ ∀ w, (zeroValue e).run P w = .ok (.int .i64 0) w
theorem kval_inj {a b : List Int} (h : kval a = kval b) : a = b := by
 unfold kval at h
 injection h with h
 have h := congrArg Array.toList h
 exact (List.map_inj_right (fun x y e => by injection e)).1 h
theorem kvget_none {kv : List (List Int × Int)} {xs : List Int} (h : ∀ p ∈ kv, p.1 ≠ xs) : kvget kv xs = 0 := by
 unfold kvget
 rw [List.find?_eq_none.2 (fun p hp => by simpa using h p hp)]
theorem kvget_mem : ∀ {kv : List (List Int × Int)} {xs : List Int} {v : Int}, (kv.map (·.1)).Nodup → (xs, v) ∈ kv → kvget kv xs = v
 | p :: r, xs, v, hn, hm => by
  simp only [List.map_cons, List.nodup_cons] at hn
  unfold kvget
  rw [List.find?_cons]
  rcases List.mem_cons.1 hm with e | hm
  ·rw [← e]
   simp
  ·have : p.1 ≠ xs := fun e => hn.1 (List.mem_map.2 ⟨(xs, v), hm, e.symm⟩)
   rw [show (p.1 == xs) = false from by simpa using this]
   exact kvget_mem hn.2 hm
section
variable {P : Program} {t : TypeId} {n : Nat} {w : World} {l ck : Nat} {es : Array MapEntry} {kv : List (List Int × Int)}
theorem map_keys (hm : MapIs es ck n kv) {k e : TypeId} (hk : ∀ xs : List Int, xs.length = n → (∀ y ∈ xs, inR y) → ∃ l, keyOf P k (kval xs) = some l) : ∀ x ∈ es.toList, ∃ l, keyOf P k x.key = some l := by
 intro x hx
 have : (x.key, x.val) ∈ es.toList.map fun e => (e.key, e.val) := List.mem_map.2 ⟨x, hx, rfl⟩
 rw [hm.eq] at this
 obtain ⟨p, hp, e⟩ := List.mem_map.1 this
 have e1 : kval p.1 = x.key := congrArg Prod.fst e
 rw [← e1]
 exact hk _ (hm.wf p hp).1 (hm.wf p hp).2
theorem map_at (hm : MapIs es ck n kv) {j : Nat} {x : MapEntry} (hj : es.toList[j]? = some x) : ∃ p, kv[j]? = some p ∧ x.key = kval p.1 ∧ x.val = .int .i64 p.2 := by
 have h := congrArg (fun l => l[j]?) hm.eq
 simp only [List.getElem?_map, hj, Option.map_some] at h
 cases hk : kv[j]? with
 | none => rw [hk] at h; simp at h
 | some p =>
  rw [hk] at h
  simp only [Option.map_some, Option.some.injEq, Prod.mk.injEq] at h
  exact ⟨p, rfl, h.1, h.2⟩
theorem map_mem (hm : MapIs es ck n kv) {p : List Int × Int} (hp : p ∈ kv) : ∃ x ∈ es.toList, x.key = kval p.1 := by
 have : (kval p.1, Value.int .i64 p.2) ∈ es.toList.map fun e => (e.key, e.val) := by rw [hm.eq]; exact List.mem_map.2 ⟨p, hp, rfl⟩
 obtain ⟨x, hx, e⟩ := List.mem_map.1 this
 exact ⟨x, hx, congrArg Prod.fst e⟩
theorem look_run (hT : MKey P t n) (hb : w.heap[l]? = some (.map es ck)) (hm : MapIs es ck n kv) {xs : List Int} (hx : xs.length = n) (hr : ∀ y ∈ xs, inR y) :
  (Instr.lookup t (.map (some l)) (kval xs) false).run P w = .ok (.int .i64 (kvget kv xs)) w := by
 obtain ⟨k, e, ht, K, hk, hz⟩ := hT
 obtain ⟨kl, hkey⟩ := hk xs hx hr
 rcases K.find w hkey es.toList (map_keys hm (e := e) hk) with ⟨h1, h2⟩ | ⟨j, e0, h1, h2, h3⟩
 ·have : kvget kv xs = 0 := kvget_none fun p hp e => by
   obtain ⟨x, hx, hxk⟩ := map_mem hm hp
   exact h2 x hx (by rw [hxk, e])
  rw [this]
  simp [Instr.lookup, run_underlying ht, MapKept.run_getObj_map hb, K.check w _ hkey, h1, hz, Result.andThen]
 ·obtain ⟨p, hp, hpk, hpv⟩ := map_at hm h2
  have hxs : p.1 = xs := kval_inj (by rw [← hpk, h3])
  have : kvget kv xs = p.2 := kvget_mem hm.nd (by rw [← hxs]; exact List.mem_of_getElem? hp)
  rw [this, ← hpv]
  simp [Instr.lookup, run_underlying ht, MapKept.run_getObj_map hb, K.check w _ hkey, h1, Result.andThen]
theorem kvset_new {xs : List Int} (hn : ∀ p ∈ kv, p.1 ≠ xs) (z : Int) : kvset kv xs z = kv ++ [(xs, z)] := by
 unfold kvset
 rw [if_neg]
 intro h
 obtain ⟨p, hp, e⟩ := List.mem_map.1 h
 exact hn p hp e
theorem kvset_same {xs : List Int} {z : Int} (hn : (kv.map (·.1)).Nodup) (h : (xs, z) ∈ kv) : kvset kv xs z = kv := by
 unfold kvset
 rw [if_pos (List.mem_map.2 ⟨_, h, rfl⟩)]
 have : kv.map (fun p => if p.1 = xs then (xs, z) else p) = kv.map id := by
  apply List.map_congr_left
  intro p hp
  split
  ·next e =>
   have h1 := kvget_mem hn h
   have h2 := kvget_mem (xs := p.1) (v := p.2) hn (by simpa using hp)
   rw [e, h1] at h2
   rw [← e, h2]
   rfl
  ·rfl
 rw [this, List.map_id]
theorem kvget_set (kv : List (List Int × Int)) (xs : List Int) (z : Int) (ys : List Int) : kvget (kvset kv xs z) ys = if ys = xs then z else kvget kv ys := by
 unfold kvset
 by_cases h : xs ∈ kv.map (·.1)
 ·rw [if_pos h]
  induction kv with
  | nil => simp at h
  | cons p r ih =>
   unfold kvget
   simp only [List.map_cons, List.find?_cons]
   by_cases e : p.1 = xs
   ·rw [if_pos e]
    by_cases e2 : ys = xs
    ·subst e2; simp
    ·rw [if_neg e2]
     have h1 : (xs == ys) = false := by simpa using fun h => e2 h.symm
     have h2 : (p.1 == ys) = false := by rw [e]; exact h1
     simp only [h1, h2]
     by_cases h3 : xs ∈ r.map (·.1)
     ·have := ih h3
      rw [if_neg e2] at this
      exact this
     ·have : r.map (fun p => if p.1 = xs then (xs, z) else p) = r.map id := by
       apply List.map_congr_left
       intro q hq
       rw [if_neg (fun e => h3 (List.mem_map.2 ⟨q, hq, e⟩))]
       rfl
      rw [this, List.map_id]
   ·rw [if_neg e]
    have hr : xs ∈ r.map (·.1) := by
     rw [List.map_cons] at h
     rcases List.mem_cons.1 h with h | h
     ·exact absurd h.symm e
     ·exact h
    have := ih hr
    by_cases e3 : p.1 = ys
    ·have h1 : (p.1 == ys) = true := by simpa using e3
     simp only [h1]
     rw [if_neg (fun h => e (by rw [e3, h]))]
    ·have h1 : (p.1 == ys) = false := by simpa using e3
     simp only [h1]
     exact this
 ·rw [if_neg h]
  unfold kvget
  rw [List.find?_append]
  by_cases e : ys = xs
  ·subst e
   rw [if_pos rfl, List.find?_eq_none.2 (fun p hp => by
    simp only [beq_iff_eq]
    exact fun e => h (List.mem_map.2 ⟨p, hp, e⟩))]
   simp
  ·rw [if_neg e]
   have h1 : (xs == ys) = false := by simpa using fun h => e h.symm
   cases kv.find? (fun p => p.1 == ys) with
   | some p => rfl
   | none => simp [h1]
theorem kvset_kvset (kv : List (List Int × Int)) (xs : List Int) (g z : Int) : kvset (kvset kv xs g) xs z = kvset kv xs z := by
 by_cases h : xs ∈ kv.map (·.1)
 ·have e1 : kvset kv xs g = kv.map (fun p => if p.1 = xs then (xs, g) else p) := by unfold kvset; rw [if_pos h]
  have e2 : kvset kv xs z = kv.map (fun p => if p.1 = xs then (xs, z) else p) := by unfold kvset; rw [if_pos h]
  have hk : (kv.map (fun p => if p.1 = xs then (xs, g) else p)).map (·.1) = kv.map (·.1) := by
   rw [List.map_map]
   apply List.map_congr_left
   intro q _
   simp only [Function.comp]
   split
   ·next e => exact e.symm
   ·rfl
  rw [e1, e2]
  unfold kvset
  rw [hk, if_pos h, List.map_map]
  apply List.map_congr_left
  intro q _
  simp only [Function.comp]
  by_cases e : q.1 = xs
  ·simp [e]
  ·simp [e]
 ·have e1 : kvset kv xs g = kv ++ [(xs, g)] := by unfold kvset; rw [if_neg h]
  have e2 : kvset kv xs z = kv ++ [(xs, z)] := by unfold kvset; rw [if_neg h]
  rw [e1, e2]
  unfold kvset
  rw [if_pos (by simp), List.map_append]
  congr 1
  ·rw [show kv.map (fun p => if p.1 = xs then (xs, z) else p) = kv.map id from by
    apply List.map_congr_left
    intro q hq
    rw [if_neg (fun e => h (List.mem_map.2 ⟨q, hq, e⟩))]
    rfl, List.map_id]
  ·simp
theorem entry_run (hT : MKey P t n) (hb : w.heap[l]? = some (.map es ck)) (hm : MapIs es ck n kv) {xs : List Int} (hx : xs.length = n) (hr : ∀ y ∈ xs, inR y) :
  ∃ (es' : Array MapEntry) (ck' j : Nat) (e0 : MapEntry), (Instr.mapEntry t (.map (some l)) (kval xs)).run P w = .ok (.tuple #[.int .i64 (kvget kv xs), goInt e0.born]) (w.putObj l (.map es' ck')) ∧ MapIs es' ck' n (kvset kv xs (kvget kv xs)) ∧
   es'.toList[j]? = some e0 ∧ e0.key = kval xs := by
 obtain ⟨k, e, ht, K, hk, hz⟩ := hT
 obtain ⟨kl, hkey⟩ := hk xs hx hr
 rcases K.find w hkey es.toList (map_keys hm (e := e) hk) with ⟨h1, h2⟩ | ⟨j, e0, h1, h2, h3⟩
 ·have hno : ∀ p ∈ kv, p.1 ≠ xs := fun p hp e => by
   obtain ⟨x, hx, hxk⟩ := map_mem hm hp
   exact h2 x hx (by rw [hxk, e])
  have hg : kvget kv xs = 0 := kvget_none hno
  refine ⟨es.push ⟨kval xs, .int .i64 0, ck⟩, ck + 1, es.size, ⟨kval xs, .int .i64 0, ck⟩, ?_, ?_, by simp, rfl⟩
  ·rw [hg]
   simp [Instr.mapEntry, run_underlying ht, MapKept.run_getObj_map hb, K.check w false hkey, h1, hz, MapKept.run_setObj_map _ hb, Result.andThen, World.putObj]
  ·rw [hg, kvset_new hno]
   refine ⟨?_, fun p hp => ?_, ?_, ?_, ?_⟩
   ·rw [Array.toList_push, List.map_append, hm.eq, List.map_append]
    rfl
   ·rcases List.mem_append.1 hp with hp | hp
    ·exact hm.wf p hp
    ·rw [List.mem_singleton] at hp
     subst hp
     exact ⟨hx, hr⟩
   ·rw [List.map_append, List.nodup_append]
    refine ⟨hm.nd, by simp, ?_⟩
    intro a ha b hb' e
    simp only [List.map_cons, List.map_nil, List.mem_singleton] at hb'
    obtain ⟨p, hp, rfl⟩ := List.mem_map.1 ha
    exact hno p hp (by rw [e, hb'])
   ·rw [Array.toList_push, List.map_append, List.nodup_append]
    refine ⟨hm.sd, by simp, ?_⟩
    intro a ha b hb' e
    simp only [List.map_cons, List.map_nil, List.mem_singleton] at hb'
    obtain ⟨x, hx, rfl⟩ := List.mem_map.1 ha
    have := hm.sl x hx
    omega
   ·intro x hx
    rw [Array.toList_push] at hx
    rcases List.mem_append.1 hx with hx | hx
    ·have := hm.sl x hx; omega
    ·rw [List.mem_singleton] at hx; subst hx; exact Nat.lt_succ_self _
 ·obtain ⟨p, hp, hpk, hpv⟩ := map_at hm h2
  have hxs : p.1 = xs := kval_inj (by rw [← hpk, h3])
  have hmem : (xs, p.2) ∈ kv := by rw [← hxs]; exact List.mem_of_getElem? hp
  have hg : kvget kv xs = p.2 := kvget_mem hm.nd hmem
  have hj : es[j]? = some e0 := by rw [← h2]; simp
  have hes : es.modify j (fun e => { e with key := kval xs }) = es := by
   apply Array.ext_getElem?
   intro i
   rw [Array.getElem?_modify]
   split
   ·next h =>
    subst h
    rw [hj]
    simp only [Option.map_some, Option.some.injEq]
    rw [← h3]
   ·rfl
  refine ⟨es, ck, j, e0, ?_, ?_, h2, h3⟩
  ·rw [hg, ← hpv]
   simp [Instr.mapEntry, run_underlying ht, MapKept.run_getObj_map hb, K.check w false hkey, h1, hj, h3, K.stays w hkey, MapKept.run_setObj_map _ hb, Result.andThen, World.putObj, hes]
  ·rw [hg, kvset_same hm.nd hmem]
   exact hm
theorem store_run (hb : w.heap[l]? = some (.map es ck)) (hm : MapIs es ck n kv) {xs : List Int} {j : Nat} {e0 : MapEntry} (hj : es.toList[j]? = some e0) (hk : e0.key = kval xs) (z : Int) :
  ∃ es', (Instr.entryStore t (.map (some l)) (goInt e0.born) (.int .i64 z)).run P w = .ok () (w.putObj l (.map es' ck)) ∧ MapIs es' ck n (kvset kv xs z) := by
 obtain ⟨p, hp, hpk, hpv⟩ := map_at hm hj
 have hxs : p.1 = xs := kval_inj (by rw [← hpk, hk])
 have hin : xs ∈ kv.map (·.1) := List.mem_map.2 ⟨p, List.mem_of_getElem? hp, hxs⟩
 have hj' : es[j]? = some e0 := by rw [← hj]; simp
 have hjl := (Array.getElem?_eq_some_iff.1 hj').1
 have hne : ∀ i, i < j → ∀ e : MapEntry, es[i]? = some e → ¬ (e.born : Int) = (e0.born : Int) := by
  intro i hi e he h
  have hil := (Array.getElem?_eq_some_iff.1 he).1
  have h5 := List.pairwise_iff_getElem.1 hm.sd i j (by simpa using hil) (by simpa using hjl) hi
  simp only [List.getElem_map, Array.getElem_toList, (Array.getElem?_eq_some_iff.1 he).2, (Array.getElem?_eq_some_iff.1 hj').2] at h5
  omega
 have hfind : es.findIdx? (fun e => (e.born : Int) == (e0.born : Int)) = some j := by
  rw [Array.findIdx?_eq_some_iff_getElem]
  refine ⟨hjl, by simp [(Array.getElem?_eq_some_iff.1 hj').2], fun i hi => ?_⟩
  have := hne i hi es[i] (by simp [Nat.lt_trans hi hjl])
  simpa using this
 refine ⟨es.modify j fun e => { e with val := .int .i64 z }, ?_, ?_⟩
 ·simp [Instr.entryStore, MapKept.run_getObj_map hb, asInt, asIntOf, goInt, hfind, MapKept.run_setObj_map _ hb, Result.andThen, World.putObj]
 ·unfold kvset
  rw [if_pos hin]
  refine ⟨?_, fun q hq => ?_, ?_, ?_, ?_⟩
  ·apply List.ext_getElem?
   intro i
   have hi := congrArg (fun l => l[i]?) hm.eq
   simp only [List.getElem?_map] at hi
   simp only [List.getElem?_map, Array.toList_modify, List.getElem?_modify]
   by_cases hij : j = i
   ·subst hij
    rw [hj, hp]
    simp [hxs, hk]
   ·simp only [if_neg hij, Option.map_eq_map, Option.map_id']
    rw [hi]
    cases hq : kv[i]? with
    | none => rfl
    | some q =>
     have : q.1 ≠ xs := by
      intro e
      have hlt1 := (List.getElem?_eq_some_iff.1 hq).1
      have hlt2 := (List.getElem?_eq_some_iff.1 hp).1
      have h5 := List.pairwise_iff_getElem.1 hm.nd
      have v1 : (kv.map (·.1))[i]'(by simpa using hlt1) = xs := by
       rw [List.getElem_map, (List.getElem?_eq_some_iff.1 hq).2, e]
      have v2 : (kv.map (·.1))[j]'(by simpa using hlt2) = xs := by
       rw [List.getElem_map, (List.getElem?_eq_some_iff.1 hp).2, hxs]
      rcases Nat.lt_or_gt_of_ne hij with h6 | h6
      ·exact h5 j i (by simpa using hlt2) (by simpa using hlt1) h6 (v2.trans v1.symm)
      ·exact h5 i j (by simpa using hlt1) (by simpa using hlt2) h6 (v1.trans v2.symm)
     simp [this]
  ·obtain ⟨q', hq', rfl⟩ := List.mem_map.1 hq
   have hx := hm.wf p (List.mem_of_getElem? hp)
   rw [hxs] at hx
   split
   ·exact hx
   ·exact hm.wf q' hq'
  ·have : (kv.map (fun p => if p.1 = xs then (xs, z) else p)).map (·.1) = kv.map (·.1) := by
    rw [List.map_map]
    apply List.map_congr_left
    intro q _
    simp only [Function.comp]
    split
    ·next e => exact e.symm
    ·rfl
   rw [this]
   exact hm.nd
  ·have : (es.modify j fun e => { e with val := .int .i64 z }).toList.map (·.born) = es.toList.map (·.born) := by
    apply List.ext_getElem?
    intro i
    simp only [List.getElem?_map, Array.toList_modify, List.getElem?_modify]
    cases es.toList[i]? with
    | none => rfl
    | some e => simp only [Option.map_eq_map, Option.map_some]; split <;> rfl
   rw [this]
   exact hm.sd
  ·intro e he
   obtain ⟨i, hi, rfl⟩ := List.getElem_of_mem he
   have hi' : i < es.toList.length := by simpa using hi
   have := hm.sl es.toList[i] (List.getElem_mem hi')
   simp only [Array.toList_modify, List.getElem_modify]
   split <;> exact this
end
end Go.V

set_option linter.unusedSimpArgs false
set_option linter.unusedVariables false
set_option linter.unnecessarySimpa false
namespace Go.V
open Go Go.RowKit
inductive VM where
 | sh | full | own (k : Nat)
 deriving Inhabited
inductive AV where
 | und | nul
 | int (n : Int)
 | bool (b : Bool)
 | agg (cs : List AV)
 | sl (sz : Nat) (es : List AV) (m : VM)
 | ref (sz : Nat) (es : List AV) (i off : Nat)
 | ptr (b off : Nat)
 | bsl (b off sz n : Nat) (ag : Bool)
 | clo (f : FuncId) (first caps : List AV)
 | clw (f : FuncId) (first caps : List AV)
 | yld (l : Nat)
 | tup (vs : List AV)
 | tupw (cs : List AV)
 | gsl (b i v sz n : Nat) (ag : Bool)
 | aggw (cs : List AV)
 | lsl (sz n : Nat) (cs : List AV)
 | mpr (l : Nat)
 | nilp
 | un (b : BitVec 64)
 deriving Inhabited
def GB : Nat := 1048576
def prn (x y : Nat) : Nat := (x + y) * (x + y) + y
def K (b i v : Nat) : Nat := GB + prn (prn b i) v
theorem prn_inj {x y x' y' : Nat} (h : prn x y = prn x' y') : x = x' ∧ y = y' := by
 unfold prn at h
 have hs : x + y = x' + y' := by
  rcases Nat.lt_trichotomy (x + y) (x' + y') with hl | hl | hl
  ·have h1 : (x + y + 1) * (x + y + 1) ≤ (x' + y') * (x' + y') := Nat.mul_le_mul hl hl
   have h2 : (x + y + 1) * (x + y + 1) = (x + y) * (x + y) + 2 * (x + y) + 1 := by
    rw [Nat.add_mul, Nat.mul_add]; omega
   omega
  ·exact hl
  ·have h1 : (x' + y' + 1) * (x' + y' + 1) ≤ (x + y) * (x + y) := Nat.mul_le_mul hl hl
   have h2 : (x' + y' + 1) * (x' + y' + 1) = (x' + y') * (x' + y') + 2 * (x' + y') + 1 := by
    rw [Nat.add_mul, Nat.mul_add]; omega
   omega
 rw [hs] at h
 omega
theorem K_inj {b i v b' i' v' : Nat} : (K b i v = K b' i' v') = (b = b' ∧ i = i' ∧ v = v') := by
 apply propext
 constructor
 ·intro h
  unfold K at h
  obtain ⟨h1, h2⟩ := prn_inj (show prn (prn b i) v = prn (prn b' i') v' by omega)
  obtain ⟨h3, h4⟩ := prn_inj h1
  exact ⟨h3, h4, h2⟩
 ·rintro ⟨rfl, rfl, rfl⟩; rfl
theorem K_ge (b i v : Nat) : GB ≤ K b i v := by unfold K; omega
theorem K_ne {b i v k : Nat} (h : k < 1048576) : (K b i v = k) = False := by
 apply propext
 constructor
 ·intro e; have := K_ge b i v; unfold GB at this; omega
 ·exact False.elim
theorem K_ne' {b i v k : Nat} (h : k < 1048576) : (k = K b i v) = False := by rw [← K_ne (b := b) (i := i) (v := v) h]; exact propext ⟨fun e => e.symm, fun e => e.symm⟩
attribute [irreducible] K
def AV.cells : AV → List AV
 | .agg cs => cs
 | .aggw cs => cs
 | x => [x]
def AV.okv : AV → Bool
 | .und | .nul | .tup _ | .tupw _ | .lsl _ _ _ => false
 | _ => true
def AV.isCell : AV → Bool
 | .nul | .tup _ | .tupw _ | .agg _ | .aggw _ | .lsl _ _ _ => false
 | _ => true
def AV.isElem : AV → Bool
 | .nul | .tup _ | .tupw _ | .aggw _ | .lsl _ _ _ => false
 | _ => true
structure BX where
 cells : List AV
 frz : Bool
inductive Ex where
 | norm | exit (i : Nat) | ret
 | mp (l n : Nat) (kv : List (List Int × Int))
 deriving DecidableEq
structure AS where
 fr : List (Nat × AV)
 hp : List (Nat × BX)
 tk : List (Nat × Nat)
 pd : Option Ex
def get (l : List (Nat × AV)) (t : Nat) : AV :=
 match l with
 | [] => .und
 | (s, v) :: r => if s = t then v else get r t
def getB (l : List (Nat × BX)) (b : Nat) : Option BX :=
 match l with
 | [] => none
 | (s, v) :: r => if s = b then some v else getB r b
def getT (l : List (Nat × Nat)) (k : Nat) : Option Nat :=
 match l with
 | [] => none
 | (s, v) :: r => if s = k then some v else getT r k
inductive VO where
 | t (n : Nat)
 | k (v : AV)
def ev (σ : AS) : VO → AV
 | .t n => get σ.fr n
 | .k v => v
def put (d : Option Nat) (v : AV) (σ : AS) : AS :=
 match d with
 | some d => { σ with fr := (d, v) :: σ.fr }
 | none => σ
def chunk (ag : Bool) (sz : Nat) (cells : List AV) (off : Nat) : AV :=
 if ag then .agg ((cells.drop off).take sz) else cells[off]?.getD .und
def chunks (ag : Bool) (sz : Nat) (cells : List AV) (off : Nat) : Nat → List AV
 | 0 => []
 | n + 1 => chunk ag sz cells off :: chunks ag sz cells (off + sz) n
def strip1 (hp : List (Nat × BX)) : AV → AV
 | .sl sz es _ => .sl sz es .sh
 | .ptr b off =>
  match getB hp b with
  | some ⟨cells, true⟩ => .ref cells.length [.agg cells] 0 off
  | _ => .und
 | .bsl b off sz n ag =>
  match getB hp b with
  | some ⟨cells, true⟩ => if off + n * sz ≤ cells.length ∧ (ag = true ∨ sz = 1) then .sl sz (chunks ag sz cells off n) .sh else .und
  | _ => .und
 | .gsl b i v sz n ag =>
  match getB hp (K b i v) with
  | some ⟨cells, true⟩ => if n * sz ≤ cells.length ∧ (ag = true ∨ sz = 1) then .sl sz (chunks ag sz cells 0 n) .sh else .und
  | _ => .und
 | .clw _ _ _ => .und
 | .lsl _ _ _ => .und
 | .tupw _ => .und
 | x => x
def strip (hp : List (Nat × BX)) : AV → AV
 | .aggw cs => .agg (cs.map (strip1 hp))
 | x => strip1 hp x
def AV.bid1 : AV → List Nat
 | .ptr b _ => [b]
 | .bsl b _ _ _ _ => [b]
 | .gsl b i v _ _ _ => [K b i v]
 | _ => []
def AV.bid : AV → List Nat
 | .aggw cs => cs.flatMap AV.bid1
 | x => x.bid1
def AV.shr : AV → AV
 | .sl sz es (.own _) => .sl sz es .sh
 | .clw _ _ _ => .und
 | x => x
def tidy1 (hp : List (Nat × BX)) : AV → AV
 | .bsl b off sz n ag =>
  match getB hp b with
  | some ⟨cells, true⟩ => if off + n * sz ≤ cells.length ∧ (ag = true ∨ sz = 1) then .sl sz (chunks ag sz cells off n) .sh else .bsl b off sz n ag
  | _ => .bsl b off sz n ag
 | .gsl b i v sz n ag =>
  match getB hp (K b i v) with
  | some ⟨cells, true⟩ => if n * sz ≤ cells.length ∧ (ag = true ∨ sz = 1) then .sl sz (chunks ag sz cells 0 n) .sh else .gsl b i v sz n ag
  | _ => .gsl b i v sz n ag
 | .ptr b off =>
  match getB hp b with
  | some ⟨cells, true⟩ => .ref cells.length [.agg cells] 0 off
  | _ => .ptr b off
 | x => x
def tidy (hp : List (Nat × BX)) : AV → AV
 | .aggw cs => .aggw (cs.map (tidy1 hp))
 | x => tidy1 hp x
def setB (b : Nat) (x : BX) : List (Nat × BX) → List (Nat × BX)
 | [] => [(b, x)]
 | (c, y) :: r => if c = b then (b, x) :: r else (c, y) :: setB b x r
def setT (k : Nat) (x : Nat) : List (Nat × Nat) → List (Nat × Nat)
 | [] => [(k, x)]
 | (c, y) :: r => if c = k then (k, x) :: r else (c, y) :: setT k x r
def frz1 (b : Nat) (hp : List (Nat × BX)) : List (Nat × BX) :=
 match getB hp b with
 | some ⟨cells, false⟩ => setB b ⟨cells.map (strip hp), true⟩ hp
 | _ => hp
def frzL (bs : List Nat) (hp : List (Nat × BX)) : List (Nat × BX) :=
 match bs with
 | [] => hp
 | b :: r => frzL r (frz1 b hp)
def frzS (bs : List Nat) (σ : AS) : AS := { σ with hp := frzL bs σ.hp }
def setAt (cells : List AV) (off : Nat) (vs : List AV) : List AV :=
 match off, cells with
 | 0, cs => vs ++ cs.drop vs.length
 | _ + 1, [] => []
 | n + 1, c :: cs => c :: setAt cs n vs
def w64 (n : Int) : Int := IntKind.i64.wrap n
inductive BK where
 | add | sub | mul | quo | rem | lss | leq | gtr | geq | eql | neq | beq | bne
 | seq (n : Nat) | sne (n : Nat)
 | shr | shl | band | bor
inductive VOp where
 | mov (x : VO)
 | bin (k : BK) (x y : VO)
 | not (x : VO)
 | neg (x : VO)
 | pick (c a b : VO)
 | nils (k sz : Nat)
 | alloc (b : Nat) (z : List AV)
 | box (b n : Nat) (x : VO)
 | load (n : Nat) (ag : Bool) (x : VO) (av : List Nat)
 | store (n : Nat) (p x : VO) (ob : Option Nat)
 | fld (off : Nat) (x : VO)
 | idx (sz : Nat) (x i : VO)
 | idxA (len sz : Nat) (x i : VO)
 | fieldV (off n : Nat) (ag : Bool) (x : VO)
 | indexV (len sz : Nat) (ag : Bool) (x i : VO)
 | build (z : List AV) (parts : List (Nat × Nat × VO))
 | bslice (sz : Nat) (xs : List VO)
 | makes (b sz bytes : Nat) (ag : Bool) (z : List AV) (len : VO)
 | make0 (k sz bytes : Nat) (cap : VO)
 | app (k sz bytes : Nat) (x y : VO)
 | slice (sz : Nat) (x : VO) (lo hi : Option VO)
 | sliceF (sz : Nat) (x : VO) (lo hi mx : Option VO)
 | sliceA (len sz : Nat) (ag : Bool) (x : VO) (lo hi : Option VO)
 | nilsG (b : Nat) (ix : Option VO) (sz : Nat) (ag : Bool)
 | appG (b : Nat) (ix : Option VO) (sz bytes : Nat) (ag : Bool) (x y : VO)
 | bsliceW (sz : Nat) (xs : List VO)
 | buildW (z : List AV) (parts : List (Nat × Nat × VO))
 | loadW (n : Nat) (x : VO) (av : List Nat)
 | len (x : VO)
 | min (x y : VO)
 | max (x y : VO)
 | max3 (x y z : VO)
 | ext (x : VO) (i : Nat)
 | nilck (x : VO)
 | nile (x : VO)
 | cvu (x : VO)
 | mmake (t : TypeId) (n : Nat)
 | mlook (t : TypeId) (x k : VO)
 | mkf (f : FuncId) (caps : List VO)
 | mkw (f : FuncId) (caps : List VO)
 | call (f : FuncId) (xs : List VO)
 | callv (x : VO) (xs : List VO)
 | calli (f : FuncId) (xs : List VO)
 | callb (f : FuncId) (xs : List VO) (avs : List Nat)
 | callL (f : FuncId) (xs : List VO) (bs : List Nat)
 | callt (f : FuncId) (i : Nat) (xs : List VO)
 | calls (f : FuncId) (b : Nat) (xs : List VO) (bs : List (Nat × Nat × BX))
 | mkm (f : FuncId) (xs : List VO)
 | callw (x : VO) (xs : List VO)
 | yield (x : VO) (xs : List VO)
structure VOper where
 d : Option Nat
 op : VOp
 g : Option (Nat × Bool) := none
def AV.isInt : AV → Prop
 | .int _ => True
 | _ => False
def AV.isBool : AV → Prop
 | .bool _ => True
 | _ => False
def AV.toInt : AV → Int
 | .int n => n
 | _ => 0
def AV.toBool : AV → Bool
 | .bool b => b
 | _ => false
def BK.cond : BK → AV → AV → Prop
 | .quo, .int _, .int b => b ≠ 0
 | .rem, .int _, .int b => b ≠ 0
 | .beq, .bool _, .bool _ => True
 | .bne, .bool _, .bool _ => True
 | .seq n, .agg xs, .agg ys => xs.length = n ∧ ys.length = n ∧ (∀ x ∈ xs, x.isInt) ∧ ∀ y ∈ ys, y.isInt
 | .sne n, .agg xs, .agg ys => xs.length = n ∧ ys.length = n ∧ (∀ x ∈ xs, x.isInt) ∧ ∀ y ∈ ys, y.isInt
 | .add, .int _, .int _ | .sub, .int _, .int _ | .mul, .int _, .int _ | .lss, .int _, .int _ | .leq, .int _, .int _
 | .gtr, .int _, .int _ | .geq, .int _, .int _ | .eql, .int _, .int _ | .neq, .int _, .int _ => True
 | .shr, .un _, .int b => 0 ≤ b
 | .shl, .un _, .int b => 0 ≤ b
 | .band, .un _, .un _ => True
 | .bor, .un _, .un _ => True
 | .eql, .un _, .un _ => True
 | .sub, .un _, .un _ => True
 | .neq, .un _, .un _ => True
 | _, _, _ => False
def sameCells : List AV → List AV → Bool
 | [], [] => true
 | .int a :: xs, .int b :: ys => a == b && sameCells xs ys
 | _, _ => false
def BK.val : BK → AV → AV → AV
 | .add, .int a, .int b => .int (w64 (a + b))
 | .sub, .int a, .int b => .int (w64 (a - b))
 | .mul, .int a, .int b => .int (w64 (a * b))
 | .quo, .int a, .int b => .int (w64 (a.tdiv b))
 | .rem, .int a, .int b => .int (a.tmod b)
 | .lss, .int a, .int b => .bool (decide (a < b))
 | .leq, .int a, .int b => .bool (decide (a ≤ b))
 | .gtr, .int a, .int b => .bool (decide (a > b))
 | .geq, .int a, .int b => .bool (decide (a ≥ b))
 | .eql, .int a, .int b => .bool (a == b)
 | .neq, .int a, .int b => .bool (a != b)
 | .beq, .bool a, .bool b => .bool (a == b)
 | .bne, .bool a, .bool b => .bool (!(a == b))
 | .seq _, .agg xs, .agg ys => .bool (sameCells xs ys)
 | .sne _, .agg xs, .agg ys => .bool (!sameCells xs ys)
 | .shr, .un a, .int b => .un (a >>> min b.toNat 64)
 | .shl, .un a, .int b => .un (a <<< min b.toNat 64)
 | .band, .un a, .un b => .un (a &&& b)
 | .bor, .un a, .un b => .un (a ||| b)
 | .eql, .un a, .un b => .bool (decide (a = b))
 | .sub, .un a, .un b => .un (a - b)
 | .neq, .un a, .un b => .bool (!decide (a = b))
 | _, _, _ => .und
def fillV (hp : List (Nat × BX)) (σ : AS) (cells : List AV) : List (Nat × Nat × VO) → List AV
 | [] => cells
 | (off, _, x) :: r => fillV hp σ (setAt cells off (strip hp (ev σ x)).cells) r
def fillOk (hp : List (Nat × BX)) (σ : AS) (n : Nat) : List (Nat × Nat × VO) → Prop
 | [] => True
 | (off, sz, x) :: r => (strip hp (ev σ x)).okv = true ∧ (strip hp (ev σ x)).cells.length = sz ∧ off + sz ≤ n ∧ fillOk hp σ n r
def evs (σ : AS) : List VO → List AV
 | [] => []
 | x :: r => ev σ x :: evs σ r
def strips (hp : List (Nat × BX)) : List AV → List AV
 | [] => []
 | x :: r => strip hp x :: strips hp r
def bids : List AV → List Nat
 | [] => []
 | x :: r => x.bid ++ bids r
def allOk : List AV → Prop
 | [] => True
 | x :: r => x.okv = true ∧ allOk r
def AV.okw : AV → Bool
 | .ptr _ _ | .bsl _ _ _ _ _ | .gsl _ _ _ _ _ _ | .int _ | .bool _ | .clo _ _ _ | .ref _ _ _ _ | .yld _ => true
 | _ => false
def allW : List AV → Prop
 | [] => True
 | x :: r => x.okw = true ∧ allW r
def allSz (sz : Nat) : List AV → Prop
 | [] => True
 | x :: r => x.cells.length = sz ∧ allSz sz r
def small (n : Nat) : Prop := n ≤ 4294967296
def fits (n by_ : Nat) : Prop := n ≤ 140737488355328 ∧ (n ≤ 4294967296 ∨ n * by_ ≤ 140737488355328)
def optInt (σ : AS) (dflt : Int) : Option VO → AV
 | some x => ev σ x
 | none => .int dflt
def dynN : AV → Nat
 | .int n => n.toNat
 | .sl _ es _ => es.length
 | _ => 0
def dynI (σ : AS) : Option VO → Nat
 | some x => dynN (ev σ x)
 | none => 0
def avOK (b : Nat) (avs : List Nat) : Prop := ¬ b ∈ avs ∧ (¬ GB ∈ avs ∨ b < GB)
def fillW (σ : AS) (cells : List AV) : List (Nat × Nat × VO) → List AV
 | [] => cells
 | (off, _, x) :: r => fillW σ (setAt cells off ((ev σ x).cells.map AV.shr)) r
def fillWOk (σ : AS) (n : Nat) : List (Nat × Nat × VO) → Prop
 | [] => True
 | (off, sz, x) :: r => (ev σ x).okv = true ∧ (ev σ x).cells.length = sz ∧ off + sz ≤ n ∧ fillWOk σ n r
def flat : List AV → List AV
 | [] => []
 | e :: r => e.cells ++ flat r
def yInfo : AV → Option (Nat × Nat × List AV)
 | .sl sz fs _ => some (sz, fs.length, flat fs)
 | .lsl sz k cs => some (sz, k, cs)
 | _ => none
def flatW : List AV → List AV
 | [] => []
 | e :: r => e.cells.map AV.shr ++ flatW r
def imax (a b : Int) : Int := if b > a then b else a
def gsB (b : Nat) (l : List (Nat × Nat × BX)) : List (Nat × BX) := l.map fun p => (K b p.1 p.2.1, p.2.2)
def vcond (op : VOp) (σ : AS) : Prop :=
 match op with
 | .mov _ => True
 | .bin k x y => k.cond (ev σ x) (ev σ y)
 | .not x => (ev σ x).isBool
 | .neg x => (ev σ x).isInt
 | .pick c _ _ => (ev σ c).isBool
 | .nils k _ => getT σ.tk k = none
 | .alloc b _ => getB σ.hp b = none
 | .box b n x => getB σ.hp b = none ∧ (ev σ x).okv = true ∧ (ev σ x).cells.length = n
 | .load n ag x avs =>
  match ev σ x with
  | .ptr b off => match getB σ.hp b with
   | some bx => off + n ≤ bx.cells.length ∧ avOK b avs
   | none => False
  | .ref sz es i off => i < es.length ∧ off + n ≤ sz
  | _ => False
 | .loadW n x avs =>
  match ev σ x with
  | .ptr b off => match getB σ.hp b with
   | some bx => off + n ≤ bx.cells.length ∧ avOK b avs
   | none => False
  | _ => False
 | .nilsG b ix _ _ => getB σ.hp (K b (dynI σ ix) 0) = none
 | .appG b0 ix sz _ ag x y =>
  match yInfo (ev σ y) with
  | none => False
  | some (sz'', k, _) => sz'' = sz ∧
   match ev σ x with
   | .gsl b i v sz' n ag' => b = b0 ∧ sz' = sz ∧ ag' = ag ∧ small (n + k) ∧ getB σ.hp (K b i (v + 1)) = none ∧
    (match getB σ.hp (K b i v) with
     | some ⟨cells, false⟩ => cells.length = n * sz
     | _ => False)
   | .sl sz' [] .full => sz' = sz ∧ small k ∧ getB σ.hp (K b0 (dynI σ ix) 0) = none
   | _ => False
 | .bsliceW sz xs => allOk (evs σ xs) ∧ allSz sz (evs σ xs)
 | .buildW z parts => fillWOk σ z.length parts
 | .store n p x ob =>
  match ev σ p with
  | .ptr b off => match getB σ.hp b with
   | some bx => (ob = none ∨ ob = some b) ∧ bx.frz = false ∧ off + n ≤ bx.cells.length ∧ (ev σ x).okv = true ∧ (ev σ x).cells.length = n
   | none => False
  | _ => False
 | .fld _ x =>
  match ev σ x with
  | .ptr _ _ | .ref _ _ _ _ => True
  | _ => False
 | .idx sz x i =>
  match ev σ x, ev σ i with
  | .sl sz' es _, .int n => sz' = sz ∧ 0 ≤ n ∧ n < es.length
  | .bsl _ _ sz' k _, .int n => sz' = sz ∧ 0 ≤ n ∧ n < k
  | .gsl _ _ _ sz' k _, .int n => sz' = sz ∧ 0 ≤ n ∧ n < k
  | _, _ => False
 | .idxA len _ x i =>
  match ev σ x, ev σ i with
  | .ptr _ _, .int n => 0 ≤ n ∧ n < len
  | .ref _ _ _ _, .int n => 0 ≤ n ∧ n < len
  | _, _ => False
 | .fieldV off n _ x =>
  match ev σ x with
  | .agg cs => off + n ≤ cs.length
  | .aggw cs => off + n ≤ cs.length
  | _ => False
 | .indexV len sz _ x i =>
  match ev σ x, ev σ i with
  | .agg cs, .int n => cs.length = len * sz ∧ 0 < sz ∧ 0 ≤ n ∧ n < len
  | _, _ => False
 | .build z parts => fillOk σ.hp σ z.length parts
 | .bslice sz xs => allOk (strips σ.hp (evs σ xs)) ∧ allSz sz (strips σ.hp (evs σ xs))
 | .makes b _ _ _ _ x =>
  match ev σ x with
  | .int n => getB σ.hp b = none ∧ 0 ≤ n ∧ small n.toNat
  | _ => False
 | .make0 k _ _ x =>
  match ev σ x with
  | .int n => getT σ.tk k = none ∧ 0 ≤ n ∧ small n.toNat
  | _ => False
 | .app k0 sz bytes x y =>
  match ev σ x, strip σ.hp (ev σ y) with
  | .sl sz' es m, .sl sz'' fs _ =>
   sz' = sz ∧ sz'' = sz ∧ fits (es.length + fs.length) bytes ∧
   match m with
   | .sh => False
   | .full => getT σ.tk k0 = none
   | .own k => getT σ.tk k = some es.length
  | _, _ => False
 | .slice sz x lo hi =>
  match ev σ x with
  | .sl sz' es _ => match optInt σ 0 lo, optInt σ es.length hi with
   | .int l, .int h => sz' = sz ∧ 0 ≤ l ∧ l ≤ h ∧ h ≤ es.length
   | _, _ => False
  | _ => False
 | .sliceF sz x lo hi mx =>
  match ev σ x with
  | .sl sz' es _ => match optInt σ 0 lo, optInt σ es.length hi, optInt σ es.length mx with
   | .int l, .int h, .int m => sz' = sz ∧ 0 ≤ l ∧ l ≤ h ∧ h ≤ es.length ∧ m = h
   | _, _, _ => False
  | _ => False
 | .sliceA len _ _ x lo hi =>
  match ev σ x with
  | .ptr _ _ => match optInt σ 0 lo, optInt σ len hi with
   | .int l, .int h => 0 ≤ l ∧ l ≤ h ∧ h ≤ len ∧ l < len
   | _, _ => False
  | _ => False
 | .len x =>
  match ev σ x with
  | .sl _ _ _ | .bsl _ _ _ _ _ | .gsl _ _ _ _ _ _ => True
  | _ => False
 | .min x y => (ev σ x).isInt ∧ (ev σ y).isInt
 | .max x y => (ev σ x).isInt ∧ (ev σ y).isInt
 | .max3 x y z => (ev σ x).isInt ∧ (ev σ y).isInt ∧ (ev σ z).isInt
 | .ext x i =>
  match ev σ x with
  | .tup vs => i < vs.length
  | .tupw vs => i < vs.length
  | _ => False
 | .nilck x =>
  match ev σ x with
  | .ptr _ _ | .ref _ _ _ _ => True
  | .clo _ _ _ => True
  | _ => False
 | .mmake _ _ => False
 | .mlook _ _ _ => False
 | .cvu x =>
  match ev σ x with
  | .int _ | .un _ => True
  | _ => False
 | .nile x =>
  match ev σ x with
  | .sl _ (_ :: _) _ => True
  | _ => False
 | .mkf _ caps => allOk (strips (frzL (bids (evs σ caps)) σ.hp) (evs σ caps))
 | .mkw _ caps => allW (evs σ caps)
 | .call _ _ => False
 | .callv _ _ => False
 | .calli _ _ => False
 | .callb _ _ _ => False
 | .callL _ _ _ => False
 | .callt _ _ _ => False
 | .calls _ _ _ _ => False
 | .mkm _ xs => allOk (strips (frzL (bids (evs σ xs)) σ.hp) (evs σ xs))
 | .callw _ _ => False
 | .yield _ _ => False
def AV.okp : AV → Bool
 | .int _ | .bool _ | .gsl _ _ _ _ _ _ | .bsl _ _ _ _ _ | .sl _ _ (.own _) => true
 | _ => false
def vval (op : VOp) (σ : AS) : AV :=
 match op with
 | .mov x => ev σ x
 | .bin k x y => k.val (ev σ x) (ev σ y)
 | .not x => .bool (!(ev σ x).toBool)
 | .neg x => .int (w64 (0 - (ev σ x).toInt))
 | .pick c a b => if (ev σ c).toBool then ev σ a else ev σ b
 | .nils k sz => .sl sz [] (.own k)
 | .alloc b _ => .ptr b 0
 | .box b _ _ => .ptr b 0
 | .load n ag x _ =>
  match ev σ x with
  | .ptr b off => match getB σ.hp b with
   | some bx => if ag then .agg ((((bx.cells.drop off).take n)).map (strip (frzL (bids ((bx.cells.drop off).take n)) σ.hp))) else bx.cells[off]?.getD .und
   | none => .und
  | .ref _ es i off => chunk ag n (es[i]?.getD .und).cells off
  | _ => .und
 | .store _ _ _ _ => .und
 | .loadW n x _ =>
  match ev σ x with
  | .ptr b off => match getB σ.hp b with
   | some bx => .aggw (((bx.cells.drop off).take n).map AV.shr)
   | none => .und
  | _ => .und
 | .nilsG b ix sz ag => .gsl b (dynI σ ix) 0 sz 0 ag
 | .appG b0 ix sz _ ag x y =>
  match yInfo (ev σ y) with
  | none => .und
  | some (_, k, _) =>
   match ev σ x with
   | .gsl b i v _ n _ => .gsl b i (v + 1) sz (n + k) ag
   | _ => .gsl b0 (dynI σ ix) 0 sz k ag
 | .bsliceW sz xs => .lsl sz xs.length (flatW (evs σ xs))
 | .buildW z parts => .aggw (fillW σ z parts)
 | .fld off x =>
  match ev σ x with
  | .ptr b o => .ptr b (o + off)
  | .ref sz es i o => .ref sz es i (o + off)
  | _ => .und
 | .idx _ x i =>
  match ev σ x, ev σ i with
  | .sl sz es _, .int n => .ref sz es n.toNat 0
  | .bsl b off sz _ _, .int n => .ptr b (off + n.toNat * sz)
  | .gsl b i v sz _ _, .int n => .ptr (K b i v) (n.toNat * sz)
  | _, _ => .und
 | .idxA _ sz x i =>
  match ev σ x, ev σ i with
  | .ptr b o, .int n => .ptr b (o + n.toNat * sz)
  | .ref z es j o, .int n => .ref z es j (o + n.toNat * sz)
  | _, _ => .und
 | .fieldV off n ag x =>
  match ev σ x with
  | .aggw cs => if ag then .aggw ((cs.drop off).take n) else cs[off]?.getD .und
  | x => chunk ag n x.cells off
 | .indexV _ sz ag x i => chunk ag sz (ev σ x).cells ((ev σ i).toInt.toNat * sz)
 | .build z parts => .agg (fillV σ.hp σ z parts)
 | .bslice sz xs => .sl sz (strips σ.hp (evs σ xs)) .full
 | .makes b sz _ ag _ x => .bsl b 0 sz (ev σ x).toInt.toNat ag
 | .make0 k sz _ _ => .sl sz [] (.own k)
 | .app k0 sz _ x y =>
  match ev σ x, strip σ.hp (ev σ y) with
  | .sl _ es m, .sl _ fs _ =>
   match m with
   | .own k => .sl sz (es ++ fs) (.own k)
   | _ => .sl sz (es ++ fs) (.own k0)
  | _, _ => .und
 | .slice sz x lo hi =>
  match ev σ x with
  | .sl _ es _ => .sl sz ((es.take (optInt σ es.length hi).toInt.toNat).drop (optInt σ 0 lo).toInt.toNat) .sh
  | _ => .und
 | .sliceF sz x lo hi _ =>
  match ev σ x with
  | .sl _ es _ => .sl sz ((es.take (optInt σ es.length hi).toInt.toNat).drop (optInt σ 0 lo).toInt.toNat) .full
  | _ => .und
 | .sliceA len sz ag x lo hi =>
  match ev σ x with
  | .ptr b o => .bsl b (o + (optInt σ 0 lo).toInt.toNat * sz) sz ((optInt σ len hi).toInt.toNat - (optInt σ 0 lo).toInt.toNat) ag
  | _ => .und
 | .len x =>
  match ev σ x with
  | .sl _ es _ => .int es.length
  | .bsl _ _ _ n _ => .int n
  | .gsl _ _ _ _ n _ => .int n
  | _ => .und
 | .min x y => .int (if (ev σ y).toInt < (ev σ x).toInt then (ev σ y).toInt else (ev σ x).toInt)
 | .max x y => .int (if (ev σ y).toInt > (ev σ x).toInt then (ev σ y).toInt else (ev σ x).toInt)
 | .max3 x y z => .int (imax (imax (ev σ x).toInt (ev σ y).toInt) (ev σ z).toInt)
 | .ext x i =>
  match ev σ x with
  | .tup vs => vs[i]?.getD .und
  | .tupw vs => vs[i]?.getD .und
  | _ => .und
 | .nilck x => ev σ x
 | .cvu x =>
  match ev σ x with
  | .int n => .un (BitVec.ofInt 64 n)
  | .un b => .un b
  | _ => .und
 | .nile _ => .bool false
 | .mmake _ _ => .und
 | .mlook _ _ _ => .und
 | .mkf f caps => .clo f [] (strips (frzL (bids (evs σ caps)) σ.hp) (evs σ caps))
 | .call _ _ => .und
 | .mkw f caps => .clw f [] (evs σ caps)
 | .callv _ _ => .und
 | .calli _ _ => .und
 | .callb _ _ _ => .und
 | .callL _ _ _ => .und
 | .callt _ _ _ => .und
 | .calls _ _ _ _ => .und
 | .mkm f xs => .clo f (strips (frzL (bids (evs σ xs)) σ.hp) (evs σ xs)) []
 | .callw _ _ => .und
 | .yield _ _ => .und
def zeros (z : List AV) : Nat → List AV
 | 0 => []
 | n + 1 => z ++ zeros z n
def vnext (op : VOp) (σ : AS) : AS :=
 match op with
 | .nils k _ => { σ with tk := (k, 0) :: σ.tk }
 | .alloc b z => { σ with hp := (b, ⟨z, false⟩) :: σ.hp }
 | .box b _ x => { σ with hp := (b, ⟨(ev σ x).cells, false⟩) :: σ.hp }
 | .load n ag x _ =>
  match ev σ x with
  | .ptr b off => match getB σ.hp b with
   | some bx => if ag then frzS (bids ((bx.cells.drop off).take n)) σ else σ
   | none => σ
  | _ => σ
 | .store _ p x _ =>
  match ev σ p with
  | .ptr b off => match getB σ.hp b with
   | some bx => { σ with hp := setB b ⟨setAt bx.cells off (ev σ x).cells, false⟩ σ.hp }
   | none => σ
  | _ => σ
 | .makes b _ _ _ z x => { σ with hp := (b, ⟨zeros z (ev σ x).toInt.toNat, false⟩) :: σ.hp }
 | .make0 k _ _ _ => { σ with tk := (k, 0) :: σ.tk }
 | .nilsG b ix _ _ => { σ with hp := (K b (dynI σ ix) 0, ⟨[], false⟩) :: σ.hp }
 | .appG b0 ix _ _ _ x y =>
  match yInfo (ev σ y) with
  | none => σ
  | some (_, _, cs) =>
   match ev σ x with
   | .gsl b i v _ _ _ => { σ with hp := (K b i (v + 1), ⟨((getB σ.hp (K b i v)).map (·.cells)).getD [] ++ cs, false⟩) :: setB (K b i v) ⟨[], true⟩ σ.hp }
   | _ => { σ with hp := (K b0 (dynI σ ix) 0, ⟨cs, false⟩) :: σ.hp }
 | .app k0 _ _ x y =>
  match ev σ x, strip σ.hp (ev σ y) with
  | .sl _ es m, .sl _ fs _ =>
   match m with
   | .own k => { σ with tk := setT k (es.length + fs.length) σ.tk }
   | _ => { σ with tk := (k0, es.length + fs.length) :: σ.tk }
  | _, _ => σ
 | .mkf _ caps => frzS (bids (evs σ caps)) σ
 | .mkm _ xs => frzS (bids (evs σ xs)) σ
 | .calls _ b _ bs => { σ with hp := gsB b bs ++ σ.hp }
 | _ => σ
end Go.V

set_option linter.unusedSimpArgs false
set_option linter.unusedVariables false
set_option linter.unnecessarySimpa false
namespace Go.V
open Go Go.RowKit
inductive Rep0 (C : Nat → Nat → Prop) (w : World) : Value → AV → Prop
 | und (v : Value) (h : v.oneCell' = true) : Rep0 C w v .und
 | nul : Rep0 C w undef .nul
 | int (n : Int) : Rep0 C w (.int .i64 n) (.int n)
 | bool (b : Bool) : Rep0 C w (.bool b) (.bool b)
 | agg (vs : Array Value) (cs : List AV) (hn : vs.size = cs.length) (hk : ∀ (j : Nat) (c : AV), cs[j]? = some c → c.isCell = true)
   (h : ∀ (j : Nat) (c : AV), cs[j]? = some c → Rep0 C w (vs[j]?.getD undef) c) : Rep0 C w (.agg vs) (.agg cs)
 | sl0 (a : Option Addr) (cap sz : Nat) : Rep0 C w (.slice a 0 cap) (.sl sz [] .sh)
 | sl (blk o n cap sz : Nat) (es : List AV) (f : Nat → Nat → Value) (hn : n = es.length) (hcap : n ≤ cap)
   (hsz : ∀ (i : Nat) (e : AV), es[i]? = some e → e.cells.length = sz) (hk : ∀ (i : Nat) (e : AV), es[i]? = some e → e.isElem = true)
   (hc : ∀ i j, i < es.length → j < sz → C blk (o + i * sz + j))
   (hv : ∀ i j, i < es.length → j < sz → w.cell? ⟨blk, o + i * sz + j, none⟩ = some (f i j))
   (hka : ∀ (i : Nat) (e : AV), es[i]? = some e → ∀ (j : Nat) (c : AV), e.cells[j]? = some c → c.isCell = true)
   (hr : ∀ (i : Nat) (e : AV), es[i]? = some e → ∀ (j : Nat) (c : AV), e.cells[j]? = some c → Rep0 C w (f i j) c) : Rep0 C w (.slice (some ⟨blk, o, none⟩) n cap) (.sl sz es .sh)
 | ref (blk o sz i off k : Nat) (es : List AV) (f : Nat → Nat → Value) (hk0 : k = o + i * sz + off)
   (hsz : ∀ (i : Nat) (e : AV), es[i]? = some e → e.cells.length = sz) (hk : ∀ (i : Nat) (e : AV), es[i]? = some e → e.isElem = true)
   (hc : ∀ i j, i < es.length → j < sz → C blk (o + i * sz + j))
   (hv : ∀ i j, i < es.length → j < sz → w.cell? ⟨blk, o + i * sz + j, none⟩ = some (f i j))
   (hka : ∀ (i : Nat) (e : AV), es[i]? = some e → ∀ (j : Nat) (c : AV), e.cells[j]? = some c → c.isCell = true)
   (hr : ∀ (i : Nat) (e : AV), es[i]? = some e → ∀ (j : Nat) (c : AV), e.cells[j]? = some c → Rep0 C w (f i j) c) : Rep0 C w (.pointer (some ⟨blk, k, none⟩)) (.ref sz es i off)
 | clo (f : FuncId) (vf vc : Array Value) (first caps : List AV) (hf : vf.size = first.length) (hc : vc.size = caps.length)
   (h1 : ∀ (j : Nat) (c : AV), first[j]? = some c → Rep0 C w (vf[j]?.getD undef) c) (h2 : ∀ (j : Nat) (c : AV), caps[j]? = some c → Rep0 C w (vc[j]?.getD undef) c) :
   Rep0 C w (.func (.func f) vf vc) (.clo f first caps)
 | yld (l : Nat) : Rep0 C w (.func (.yield l) #[] #[]) (.yld l)
 | mpr (l : Nat) : Rep0 C w (.map (some l)) (.mpr l)
 | nilp : Rep0 C w (.pointer none) .nilp
 | un (b : BitVec 64) : Rep0 C w (.int .u64 (b.toNat : Int)) (.un b)
 | full (v : Value) (a : Option Addr) (sz : Nat) (es : List AV) (h : Rep0 C w v (.sl sz es .sh)) (hv : v = .slice a es.length es.length) : Rep0 C w v (.sl sz es .full)
 | tup (vs : Array Value) (cs : List AV) (hn : vs.size = cs.length)
   (h : ∀ (j : Nat) (c : AV), cs[j]? = some c → Rep0 C w (vs[j]?.getD undef) c) : Rep0 C w (.tuple vs) (.tup cs)
def Reps0 (C : Nat → Nat → Prop) (w : World) (vs : Array Value) (cs : List AV) : Prop :=
 vs.size = cs.length ∧ ∀ (j : Nat) (c : AV), cs[j]? = some c → Rep0 C w (vs[j]?.getD undef) c
def CVal (C : Nat → Nat → Prop) (w : World) : Prop := ∀ b o, C b o → b < w.heap.size
def GL : List (Nat × Nat × IntKind × Int) := [(1, 0, .u8, 0), (1, 3, .u8, 2)]
def GF (C : Nat → Nat → Prop) (w : World) : Prop := ∀ x ∈ GL, C x.1 x.2.1 ∧ w.cell? ⟨x.1, x.2.1, none⟩ = some (.int x.2.2.1 x.2.2.2)
def CVg (C : Nat → Nat → Prop) (w : World) : Prop := CVal C w ∧ GF C w
def gref (g : Nat) (cs : List AV) : Bool := (List.range cs.length).all fun j => match cs[j]? with
 | some (.int n) => GL.contains (g, j, .i64, n)
 | _ => false
def callable (P : Program) (f : FuncId) : Bool :=
 match P.funcs[f]? with
 | some fn => !(fn.name == "runtime.NumGoroutine") && fn.body.isSome
 | none => false
def Ctr (P : Program) (f : FuncId) (args : List AV) (res : AV) : Prop :=
 callable P f = true ∧
 ∀ (C : Nat → Nat → Prop) (w : World) (vs : Array Value), CVg C w → Reps0 C w vs args →
  Calls P f vs w fun e w' => ∃ v C', e = .returned v ∧ Below w.heap.size w w' ∧ CVal C' w' ∧ (∀ b o, C b o → C' b o) ∧ (∀ b o, C' b o → C b o ∨ w.heap.size ≤ b) ∧ Rep0 C' w' v res
def CtrN (P : Program) (f : FuncId) (args : List AV) (res : AV) : Prop :=
 callable P f = true ∧
 ∀ (C : Nat → Nat → Prop) (w : World) (vs : Array Value), CVg C w → Reps0 C w vs args →
  Calls P f vs w fun e w' => ∃ v C', e = .returned v ∧ Below w.heap.size w w' ∧ CVal C' w' ∧ (∀ b o, C' b o → w.heap.size ≤ b) ∧ Rep0 C' w' v res
def CtrT (P : Program) (f : FuncId) (i k : Nat) (rest : List AV) : Prop :=
 callable P f = true ∧
 ∀ (C : Nat → Nat → Prop) (w : World) (a : Array Value) (vs : List Value), a.size = k → (∀ j, j < k → (a[j]?.getD undef).oneCell' = true) → CVg C w → Reps0 C w vs.toArray rest →
  Calls P f (Value.agg a :: vs).toArray w fun e w' => e = .returned (a[i]?.getD undef) ∧ Below w.heap.size w w'
structure TK where
 a : Option Addr
 cap : Nat
 tip : Nat
 sz : Nat
def CW (w : World) (blk k : Nat) : Prop := ∃ vs ty, w.heap[blk]? = some (.cells vs ty (0, 0)) ∧ k ≤ vs.size
def GV (w : World) (blk sz n : Nat) (v : Value) : Prop :=
 (n = 0 ∧ ∃ a, v = .slice a 0 0) ∨ (0 < n ∧ ∃ cap, n ≤ cap ∧ v = .slice (some ⟨blk, 0, none⟩) n cap ∧ CW w blk (cap * sz))
def Rep1 (C : Nat → Nat → Prop) (w : World) (m : Nat → Option Nat) (v : Value) (av : AV) : Prop :=
 match av with
 | .gsl b i u sz n _ => ∃ blk, m (K b i u) = some blk ∧ GV w blk sz n v
 | .ptr b off => ∃ blk, m b = some blk ∧ v = .pointer (some ⟨blk, off, none⟩)
 | .bsl b off _ n _ => ∃ blk cap, m b = some blk ∧ n ≤ cap ∧ v = .slice (some ⟨blk, off, none⟩) n cap
 | av => Rep0 C w v av
def RepT (C : Nat → Nat → Prop) (w : World) (m : Nat → Option Nat) (tk : Nat → Option TK) (v : Value) (av : AV) : Prop :=
 match av with
 | .sl sz es (.own k) => Rep0 C w v (.sl sz es .sh) ∧ ∃ T, tk k = some T ∧ T.sz = sz ∧ es.length ≤ T.tip ∧ (es.length = T.tip → v = .slice T.a T.tip T.cap)
 | av => Rep1 C w m v av
def Rep (C : Nat → Nat → Prop) (w : World) (m : Nat → Option Nat) (tk : Nat → Option TK) (v : Value) (av : AV) : Prop :=
 match av with
 | .clw f first caps => ∃ vf vc : Array Value, v = .func (.func f) vf vc ∧ vf.size = first.length ∧ vc.size = caps.length ∧
   (∀ (j : Nat) (c : AV), first[j]? = some c → c.okw = true ∧ Rep1 C w m (vf[j]?.getD undef) c) ∧ ∀ (j : Nat) (c : AV), caps[j]? = some c → c.okw = true ∧ Rep1 C w m (vc[j]?.getD undef) c
 | .und => True
 | .gsl b i u sz n _ => ∃ blk, m (K b i u) = some blk ∧ GV w blk sz n v
 | .aggw cs => ∃ vs : Array Value, v = .agg vs ∧ vs.size = cs.length ∧ ∀ (j : Nat) (c : AV), cs[j]? = some c → c.isCell = true ∧ (vs[j]?.getD undef).oneCell' = true ∧ Rep1 C w m (vs[j]?.getD undef) c
 | .tupw cs => ∃ vs : Array Value, v = .tuple vs ∧ vs.size = cs.length ∧ ∀ (j : Nat) (c : AV), cs[j]? = some c → RepT C w m tk (vs[j]?.getD undef) c
 | .lsl sz n cs => ∃ (blk : Nat) (f : Nat → Value), v = .slice (some ⟨blk, 0, none⟩) n n ∧ cs.length = n * sz ∧
   ∀ (j : Nat) (c : AV), cs[j]? = some c → C blk j ∧ w.cell? ⟨blk, j, none⟩ = some (f j) ∧ c.isCell = true ∧ (f j).oneCell' = true ∧ Rep1 C w m (f j) c
 | .ptr b off => ∃ blk, m b = some blk ∧ v = .pointer (some ⟨blk, off, none⟩)
 | .bsl b off _ n _ => ∃ blk cap, m b = some blk ∧ n ≤ cap ∧ v = .slice (some ⟨blk, off, none⟩) n cap
 | .sl sz es .full => Rep0 C w v (.sl sz es .sh) ∧ ∃ a, v = .slice a es.length es.length
 | .sl sz es (.own k) => Rep0 C w v (.sl sz es .sh) ∧ ∃ T, tk k = some T ∧ T.sz = sz ∧ es.length ≤ T.tip ∧ (es.length = T.tip → v = .slice T.a T.tip T.cap)
 | av => Rep0 C w v av
inductive VC where
 | skip | ret
 | exit (i : Nat)
 | ops (dr : Bool) (l : List VOper) (ks : Option (List Nat))
 | opsN (dr : Bool) (l : List VOper) (ks : Option (List Nat))
 | seq (a b : VC)
 | cond (x : VO) (a b : VC)
 | block (i : Nat) (c : VC)
 | loop (c : VC)
 | scope (c : VC)
 | range (x : VO) (ps : List Nat) (a b : VC)
 | mbump (t : TypeId) (xm : VO) (k : VOp) (ds : List Nat) (ks : Option (List Nat))
 | opsB (l1 : List VOper) (c : VOper) (l2 : List VOper) (ks : Option (List Nat))
 | opsB2 (l1 : List VOper) (c : VOper) (l2 : List VOper) (c' : VOper) (l3 : List VOper) (ks : Option (List Nat))
def keepL (fr : List (Nat × AV)) : List Nat → List (Nat × AV)
 | [] => []
 | t :: r => (t, get fr t) :: keepL fr r
def keep (ks : Option (List Nat)) (σ : AS) : AS :=
 match ks with
 | none => σ
 | some l => { σ with fr := keepL σ.fr l }
def Kp (ks : Option (List Nat)) (K : AS → Prop) (σ : AS) : Prop := K (keep ks σ)
def tidyFr (hp : List (Nat × BX)) : List (Nat × AV) → List (Nat × AV)
 | [] => []
 | (t, v) :: r => (t, tidy hp v) :: tidyFr hp r
def tidyHp (hp : List (Nat × BX)) : List (Nat × BX) → List (Nat × BX)
 | [] => []
 | (b, x) :: r => (b, ⟨x.cells.map (tidy hp), x.frz⟩) :: tidyHp hp r
def nrm (bs : List Nat) (σ : AS) : AS := { σ with fr := tidyFr (frzL bs σ.hp) σ.fr, hp := tidyHp (frzL bs σ.hp) (frzL bs σ.hp) }
def leV : AV → AV → Prop
 | _, .und => True
 | .sl sz es m, .sl sz' es' .sh => sz = sz' ∧ es = es'
 | a, b => a = b
def inScope1 (τ : AS) : AV → Prop
 | .ptr b _ => (getB τ.hp b).isSome = true
 | .bsl b _ _ _ _ => (getB τ.hp b).isSome = true
 | .gsl b i v _ _ _ => (getB τ.hp (K b i v)).isSome = true
 | _ => True
def scopes1 (τ : AS) : List AV → Prop
 | [] => True
 | v :: r => inScope1 τ v ∧ scopes1 τ r
def inScope2 (τ : AS) : AV → Prop
 | .sl _ _ (.own k) => (getT τ.tk k).isSome = true
 | v => inScope1 τ v
def scopes2 (τ : AS) : List AV → Prop
 | [] => True
 | v :: r => inScope2 τ v ∧ scopes2 τ r
def inScope (τ : AS) : AV → Prop
 | .ptr b _ => (getB τ.hp b).isSome = true
 | .bsl b _ _ _ _ => (getB τ.hp b).isSome = true
 | .gsl b i v _ _ _ => (getB τ.hp (K b i v)).isSome = true
 | .aggw cs => scopes1 τ cs
 | .tupw cs => scopes2 τ cs
 | .lsl _ _ cs => scopes1 τ cs
 | .clw _ first caps => scopes1 τ first ∧ scopes1 τ caps
 | .sl _ _ (.own k) => (getT τ.tk k).isSome = true
 | _ => True
def leFr (τ : AS) (fr : List (Nat × AV)) : List (Nat × AV) → Prop
 | [] => True
 | (t, v) :: r => leV (get fr t) v ∧ inScope τ v ∧ leFr τ fr r
def scopes (τ : AS) : List AV → Prop
 | [] => True
 | v :: r => inScope τ v ∧ scopes τ r
def leHp (τ : AS) (hp : List (Nat × BX)) : List (Nat × BX) → Prop
 | [] => True
 | (b, x) :: r => getB hp b = some x ∧ scopes τ x.cells ∧ leHp τ hp r
def leTk (τ : AS) (tk : List (Nat × Nat)) : List (Nat × Nat) → Prop
 | [] => True
 | (k, n) :: r => getT tk k = some n ∧ leTk τ tk r
def leS (σ τ : AS) : Prop := leFr τ σ.fr τ.fr ∧ leHp τ σ.hp τ.hp ∧ leTk τ σ.tk τ.tk ∧ σ.pd = τ.pd
def scopesFr (τ : AS) : List (Nat × AV) → Prop
 | [] => True
 | (_, v) :: r => inScope τ v ∧ scopesFr τ r
def leX (τ : AS) : List (List (Nat × AV)) → Prop
 | [] => True
 | f :: r => scopesFr τ f ∧ leX τ r
def AV.isUnd : AV → Bool
 | .und => true
 | _ => false
def noUnd : List AV → Prop
 | [] => True
 | x :: r => x.isUnd = false ∧ noUnd r
def dcond (op : VOp) (σ : AS) : Prop :=
 match op with
 | .load n ag x _ =>
  match ev σ x with
  | .ptr b off => match getB σ.hp b with
   | some bx => ag = true → bids ((bx.cells.drop off).take n) = []
   | none => True
  | _ => True
 | .build _ parts => bids (evs σ (parts.map fun p => p.2.2)) = []
 | .bslice _ xs => bids (evs σ xs) = []
 | .app _ _ _ _ y => (ev σ y).bid = []
 | .mkf _ caps => bids (evs σ caps) = []
 | .call _ xs => bids (evs σ xs) = []
 | .callv _ xs => bids (evs σ xs) = []
 | .mkw _ _ => False
 | .calli _ _ => False
 | .callL _ _ _ => False
 | .callb _ xs avs =>
  match bids (evs σ xs) with
  | [b] => match getB σ.hp b with
   | some bx => bids bx.cells = [] ∧ avOK b avs
   | none => False
  | _ => False
 | .mkm _ _ => False
 | .callw _ _ => False
 | .yield _ _ => False
 | .mmake _ _ => False
 | .mlook _ _ _ => False
 | _ => True
end Go.V

set_option linter.unusedSimpArgs false
set_option linter.unusedVariables false
set_option linter.unnecessarySimpa false
namespace Go.V
open Go Go.RowKit
def Same (C : Nat → Nat → Prop) (w w' : World) : Prop := (∀ b o, C b o → w'.cell? ⟨b, o, none⟩ = w.cell? ⟨b, o, none⟩) ∧ ∀ blk k, CW w blk k → CW w' blk k
theorem Same.refl (C : Nat → Nat → Prop) (w : World) : Same C w w := ⟨fun _ _ _ => rfl, fun _ _ h => h⟩
theorem Rep0.mono {C C' : Nat → Nat → Prop} {w w' : World} {v : Value} {av : AV} (h : Rep0 C w v av) (hC : ∀ b o, C b o → C' b o) (hw : Same C w w') : Rep0 C' w' v av := by
 induction h with
 | und v h => exact .und v h
 | nul => exact .nul
 | int n => exact .int n
 | bool b => exact .bool b
 | agg vs cs hn hk h ih => exact .agg vs cs hn hk ih
 | sl0 a cap sz => exact .sl0 a cap sz
 | sl blk o n cap sz es f hn hcap hsz hk hc hv hka hr ih =>
  exact .sl blk o n cap sz es f hn hcap hsz hk (fun i j hi hj => hC _ _ (hc i j hi hj)) (fun i j hi hj => by rw [hw.1 _ _ (hc i j hi hj)]; exact hv i j hi hj) hka ih
 | ref blk o sz i off k es f hk0 hsz hk hc hv hka hr ih =>
  exact .ref blk o sz i off k es f hk0 hsz hk (fun i j hi hj => hC _ _ (hc i j hi hj)) (fun i j hi hj => by rw [hw.1 _ _ (hc i j hi hj)]; exact hv i j hi hj) hka ih
 | clo f vf vc first caps hf hc h1 h2 ih1 ih2 => exact .clo f vf vc first caps hf hc ih1 ih2
 | yld l => exact .yld l
 | mpr l => exact .mpr l
 | nilp => exact .nilp
 | un b => exact .un b
 | full v a sz es h hv ih => exact .full v a sz es ih hv
 | tup vs cs hn h ih => exact .tup vs cs hn ih
structure Row (C : Nat → Nat → Prop) (w : World) (blk o sz : Nat) (es : List AV) (f : Nat → Nat → Value) : Prop where
 hsz : ∀ (i : Nat) (e : AV), es[i]? = some e → e.cells.length = sz
 hk : ∀ (i : Nat) (e : AV), es[i]? = some e → e.isElem = true
 hc : ∀ i j, i < es.length → j < sz → C blk (o + i * sz + j)
 hv : ∀ i j, i < es.length → j < sz → w.cell? ⟨blk, o + i * sz + j, none⟩ = some (f i j)
 hka : ∀ (i : Nat) (e : AV), es[i]? = some e → ∀ (j : Nat) (c : AV), e.cells[j]? = some c → c.isCell = true
 hr : ∀ (i : Nat) (e : AV), es[i]? = some e → ∀ (j : Nat) (c : AV), e.cells[j]? = some c → Rep0 C w (f i j) c
theorem Row.sl {C : Nat → Nat → Prop} {w : World} {blk o sz cap : Nat} {es : List AV} {f : Nat → Nat → Value} (h : Row C w blk o sz es f) (hcap : es.length ≤ cap) :
  Rep0 C w (.slice (some ⟨blk, o, none⟩) es.length cap) (.sl sz es .sh) := .sl blk o es.length cap sz es f rfl hcap h.hsz h.hk h.hc h.hv h.hka h.hr
theorem Row.ref {C : Nat → Nat → Prop} {w : World} {blk o sz i off k : Nat} {es : List AV} {f : Nat → Nat → Value} (h : Row C w blk o sz es f) (hk : k = o + i * sz + off) :
  Rep0 C w (.pointer (some ⟨blk, k, none⟩)) (.ref sz es i off) := .ref blk o sz i off k es f hk h.hsz h.hk h.hc h.hv h.hka h.hr
theorem rep0_sl_inv {C : Nat → Nat → Prop} {w : World} {v : Value} {sz : Nat} {es : List AV} (h : Rep0 C w v (.sl sz es .sh)) :
  (es = [] ∧ ∃ a cap, v = .slice a 0 cap) ∨ ∃ blk o cap f, v = .slice (some ⟨blk, o, none⟩) es.length cap ∧ es.length ≤ cap ∧ Row C w blk o sz es f := by
 cases h with
 | sl0 a cap sz => exact .inl ⟨rfl, a, cap, rfl⟩
 | sl blk o n cap sz es f hn hcap hsz hk hc hv hka hr => subst hn; exact .inr ⟨blk, o, cap, f, rfl, hcap, ⟨hsz, hk, hc, hv, hka, hr⟩⟩
theorem rep0_ref_inv {C : Nat → Nat → Prop} {w : World} {v : Value} {sz i off : Nat} {es : List AV} (h : Rep0 C w v (.ref sz es i off)) :
  ∃ blk o f, v = .pointer (some ⟨blk, o + i * sz + off, none⟩) ∧ Row C w blk o sz es f := by
 cases h with
 | ref blk o sz i off k es f hk0 hsz hk hc hv hka hr => subst hk0; exact ⟨blk, o, f, rfl, ⟨hsz, hk, hc, hv, hka, hr⟩⟩
theorem Rep0.oneCell {C : Nat → Nat → Prop} {w : World} {v : Value} {av : AV} (h : Rep0 C w v av) (hk : av.isCell = true) : v.oneCell' = true := by
 cases h <;> first | rfl | assumption | (simp [AV.isCell] at hk; done) | (rename_i hv; subst hv; rfl)
theorem Rep0.cellsAt {C : Nat → Nat → Prop} {w : World} {v : Value} {av : AV} (h : Rep0 C w v av) (hk : av.isElem = true) (hnd : av ≠ .und ∨ v.oneCell' = true) :
  v.cells.size = av.cells.length ∧ ∀ (j : Nat) (c : AV), av.cells[j]? = some c → c.isCell = true ∧ Rep0 C w (v.cells[j]?.getD undef) c := by
 cases h with
 | agg vs cs hn hk' h => exact ⟨hn, fun j c hc => ⟨hk' j c hc, h j c hc⟩⟩
 | nul => simp [AV.isElem] at hk
 | tup vs cs hn h => simp [AV.isElem] at hk
 | und v hv =>
  have hs : v.cells = #[v] := by cases v <;> first | rfl | (simp [Value.oneCell'] at hv)
  refine ⟨by rw [hs]; rfl, fun j c hc => ?_⟩
  simp only [AV.cells] at hc
  cases j with
  | zero => simp at hc; subst hc; rw [hs]; exact ⟨rfl, by simpa using Rep0.und v hv⟩
  | succ j => simp at hc
 | int n => exact ⟨rfl, fun j c hc => by cases j <;> simp [AV.cells] at hc; subst hc; exact ⟨rfl, by simpa [Value.cells] using Rep0.int n⟩⟩
 | bool n => exact ⟨rfl, fun j c hc => by cases j <;> simp [AV.cells] at hc; subst hc; exact ⟨rfl, by simpa [Value.cells] using Rep0.bool n⟩⟩
 | sl0 a cap sz => exact ⟨rfl, fun j c hc => by cases j <;> simp [AV.cells] at hc; subst hc; exact ⟨rfl, by simpa [Value.cells] using Rep0.sl0 a cap sz⟩⟩
 | sl blk o n cap sz es f hn hcap hsz hk2 hc' hv hka hr => exact ⟨rfl, fun j c hc => by cases j <;> simp [AV.cells] at hc; subst hc; exact ⟨rfl, by simpa [Value.cells] using Rep0.sl blk o n cap sz es f hn hcap hsz hk2 hc' hv hka hr⟩⟩
 | ref blk o sz i off k es f hk0 hsz hk2 hc' hv hka hr => exact ⟨rfl, fun j c hc => by cases j <;> simp [AV.cells] at hc; subst hc; exact ⟨rfl, by simpa [Value.cells] using Rep0.ref blk o sz i off k es f hk0 hsz hk2 hc' hv hka hr⟩⟩
 | full v a sz es h hv => subst hv; exact ⟨rfl, fun j c hc => by cases j <;> simp [AV.cells] at hc; subst hc; exact ⟨rfl, by simpa [Value.cells] using Rep0.full _ a sz es h rfl⟩⟩
 | yld l => exact ⟨rfl, fun j c hc => by cases j <;> simp [AV.cells] at hc; subst hc; exact ⟨rfl, by simpa [Value.cells] using Rep0.yld l⟩⟩
 | mpr l => exact ⟨rfl, fun j c hc => by cases j <;> simp [AV.cells] at hc; subst hc; exact ⟨rfl, by simpa [Value.cells] using Rep0.mpr l⟩⟩
 | nilp => exact ⟨rfl, fun j c hc => by cases j <;> simp [AV.cells] at hc; subst hc; exact ⟨rfl, by simpa [Value.cells] using Rep0.nilp⟩⟩
 | un b => exact ⟨rfl, fun j c hc => by cases j <;> simp [AV.cells] at hc; subst hc; exact ⟨rfl, by simpa [Value.cells] using Rep0.un b⟩⟩
 | clo f vf vc first caps hf hc' h1 h2 => exact ⟨rfl, fun j c hc => by cases j <;> simp [AV.cells] at hc; subst hc; exact ⟨rfl, by simpa [Value.cells] using Rep0.clo f vf vc first caps hf hc' h1 h2⟩⟩
section
variable (w0n : Nat) (C : Nat → Nat → Prop) (w : World) (m : Nat → Option Nat) (tk : Nat → Option TK) (own : Nat → Option (Nat ⊕ Nat))
def BoxOK (b : Nat) (bx : BX) (blk : Nat) : Prop :=
 match bx.frz with
 | true => ∀ (j : Nat) (av : AV), bx.cells[j]? = some av → C blk j ∧ av.isCell = true ∧ ∃ v, w.cell? ⟨blk, j, none⟩ = some v ∧ Rep0 C w v av
 | false => (bx.cells = [] ∧ GB ≤ b) ∨ own blk = some (.inl b) ∧ w0n ≤ blk ∧ (∀ o, ¬ C blk o) ∧ ∃ vs ty, w.heap[blk]? = some (.cells vs ty (0, 0)) ∧ bx.cells.length ≤ vs.size ∧
   ∀ (j : Nat) (av : AV), bx.cells[j]? = some av → av.isCell = true ∧ (vs[j]?.getD undef).oneCell' = true ∧ Rep C w m tk (vs[j]?.getD undef) av
def TokOK (k : Nat) (T : TK) : Prop :=
 T.tip ≤ T.cap ∧ (T.tip < T.cap → ∃ blk, T.a = some ⟨blk, 0, none⟩ ∧ own blk = some (.inr k) ∧ w0n ≤ blk ∧ (∀ o, T.tip * T.sz ≤ o → ¬ C blk o) ∧
  ∃ vs ty, w.heap[blk]? = some (.cells vs ty (0, 0)) ∧ T.cap * T.sz ≤ vs.size)
end
structure Cfg where
 n : Nat
 X : List (Array Value × List (Nat × AV)) := []
 K : List (Nat × Obj) := []
 L : Option (Nat × (Option Ex → Obj)) := none
def ctl : Obj → Bool
 | .loop _ | .deferred _ => true
 | _ => false
def Stay (w0n : Nat) (w : World) (b : Nat) (o : Obj) : Prop := w0n ≤ b ∧ w.heap[b]? = some o ∧ ctl o = true
def dk (d : Deferred) : Nat × Obj := (match d.target with | .collected D => D | _ => 0, .deferred (some []))
structure NCok (N : Cfg) (pd : Option Ex) (w0n : Nat) (w : World) (ds : List Deferred) : Prop where
 k : ∀ p ∈ N.K, Stay w0n w p.1 p.2
 l : ∀ l f, N.L = some (l, f) → Stay w0n w l (f pd)
 d : ∀ d ∈ ds, ∃ D, d = { target := .collected D, args := #[] } ∧ Stay w0n w D (.deferred (some []))
 nd : (ds.map fun d => (dk d).1).Nodup
 dis : ∀ d ∈ ds, (∀ q ∈ N.K, q.1 ≠ (dk d).1) ∧ ∀ l f, N.L = some (l, f) → l ≠ (dk d).1
 m : ∀ l n kv, pd = some (.mp l n kv) → w0n ≤ l ∧ ∃ es ck, w.heap[l]? = some (.map es ck) ∧ MapIs es ck n kv
def ctlm : Obj → Bool
 | .map _ _ => true
 | o => ctl o
theorem ctlm_of {o : Obj} (h : ctl o = true) : ctlm o = true := by cases o <;> first | rfl | exact h
def NC (w w' : World) : Prop := ∀ (b : Nat) (o : Obj), w.heap[b]? = some o → ctlm o = true → w'.heap[b]? = some o
theorem Stay.mono {n : Nat} {w w' : World} {b : Nat} {o : Obj} (h : Stay n w b o) (hn : NC w w') : Stay n w' b o := ⟨h.1, hn _ _ h.2.1 (ctlm_of h.2.2), h.2.2⟩
theorem NCok.mono {N : Cfg} {pd : Option Ex} {n : Nat} {w w' : World} {ds : List Deferred} (h : NCok N pd n w ds) (hn : NC w w') : NCok N pd n w' ds :=
 ⟨fun p hp => (h.k p hp).mono hn, fun l f e => (h.l l f e).mono hn, fun d hd => by obtain ⟨D, e, s⟩ := h.d d hd; exact ⟨D, e, s.mono hn⟩, h.nd, h.dis, fun l n kv e => by
  obtain ⟨h1, es, ck, h2, h3⟩ := h.m l n kv e
  exact ⟨h1, es, ck, hn _ _ h2 rfl, h3⟩⟩
theorem NC.trans {a b c : World} (h : NC a b) (k : NC b c) : NC a c := fun x o hx ho => k x o (h x o hx ho) ho
theorem nc_below {w w' : World} (h : Below w.heap.size w w') : NC w w' := fun b o hb _ => by
 rw [h.block b (Array.getElem?_eq_some_iff.1 hb).1]; exact hb
structure Rel (N : Cfg) (C0 : Nat → Nat → Prop) (w0 : World) (σ : AS) (a : Act) (w : World) (C : Nat → Nat → Prop) (m : Nat → Option Nat) (tk : Nat → Option TK) (own : Nat → Option (Nat ⊕ Nat)) : Prop where
 gf : GF C0 w0
 below : Below w0.heap.size w0 w
 c0 : ∀ b o, C0 b o → C b o
 cnew : ∀ b o, C b o → C0 b o ∨ w0.heap.size ≤ b
 cval : CVal C w
 nc : NCok N σ.pd w0.heap.size w a.defers
 ext : ∀ p ∈ N.X, ∀ t, Rep C w m tk (p.1[t]?.getD undef) (get p.2 t)
 size : a.tmps.size = N.n
 slots : ∀ t, Rep C w m tk (a.tmps[t]?.getD undef) (get σ.fr t)
 boxes : ∀ b bx, getB σ.hp b = some bx → ∃ blk, m b = some blk ∧ BoxOK w0.heap.size C w m tk own b bx blk
 mdom : ∀ b blk, m b = some blk → (getB σ.hp b).isSome = true
 toks : ∀ k n, getT σ.tk k = some n → ∃ T, tk k = some T ∧ T.tip = n ∧ TokOK w0.heap.size C w own k T
 tdom : ∀ k T, tk k = some T → (getT σ.tk k).isSome = true
 owned : ∀ blk x, own blk = some x → blk < w.heap.size
 owns : ∀ blk x, own blk = some x → w0.heap.size ≤ blk
theorem GV.grow {w w' : World} {blk sz n : Nat} {v : Value} (h : GV w blk sz n v) (hg : ∀ blk k, CW w blk k → CW w' blk k) : GV w' blk sz n v := by
 rcases h with h | ⟨h1, cap, h2, h3, h4⟩
 ·exact .inl h
 ·exact .inr ⟨h1, cap, h2, h3, hg _ _ h4⟩
theorem Rep0.toRep {C : Nat → Nat → Prop} {w : World} {m : Nat → Option Nat} {tk : Nat → Option TK} {v : Value} {av : AV} (h : Rep0 C w v av) : Rep C w m tk v av := by
 cases h with
 | und v h => trivial
 | nul => exact .nul
 | int n => exact .int n
 | bool b => exact .bool b
 | agg vs cs hn hk h => exact .agg vs cs hn hk h
 | sl0 a cap sz => exact .sl0 a cap sz
 | sl blk o n cap sz es f hn hcap hsz hk hc hv hka hr => exact .sl blk o n cap sz es f hn hcap hsz hk hc hv hka hr
 | ref blk o sz i off k es f hk0 hsz hk hc hv hka hr => exact .ref blk o sz i off k es f hk0 hsz hk hc hv hka hr
 | clo f vf vc first caps hf hc h1 h2 => exact .clo f vf vc first caps hf hc h1 h2
 | yld l => exact .yld l
 | mpr l => exact .mpr l
 | nilp => exact .nilp
 | un b => exact .un b
 | full v a sz es h hv => exact ⟨h, a, hv⟩
 | tup vs cs hn h => exact .tup vs cs hn h
theorem Rep1.mono {C C' : Nat → Nat → Prop} {w w' : World} {m : Nat → Option Nat} {v : Value} {av : AV} (h : Rep1 C w m v av)
  (hC : ∀ b o, C b o → C' b o) (hw : Same C w w') : Rep1 C' w' m v av := by
 cases av with
 | ptr b off => exact h
 | bsl b off sz n ag => exact h
 | gsl b i u sz n ag => obtain ⟨blk, h1, h2⟩ := h; exact ⟨blk, h1, h2.grow hw.2⟩
 | _ => exact Rep0.mono h hC hw
theorem RepT.mono {C C' : Nat → Nat → Prop} {w w' : World} {m : Nat → Option Nat} {tk : Nat → Option TK} {v : Value} {av : AV} (h : RepT C w m tk v av)
  (hC : ∀ b o, C b o → C' b o) (hw : Same C w w') : RepT C' w' m tk v av := by
 cases av with
 | sl sz es md =>
  cases md with
  | own k => exact ⟨Rep0.mono h.1 hC hw, h.2⟩
  | sh => exact Rep1.mono (m := m) (av := .sl sz es .sh) h hC hw
  | full => exact Rep1.mono (m := m) (av := .sl sz es .full) h hC hw
 | ptr b off => exact h
 | bsl b off sz n ag => exact h
 | gsl b i u sz n ag => exact Rep1.mono (m := m) (av := .gsl b i u sz n ag) h hC hw
 | _ => exact Rep0.mono h hC hw
theorem Rep.mono {C C' : Nat → Nat → Prop} {w w' : World} {m : Nat → Option Nat} {tk : Nat → Option TK} {v : Value} {av : AV} (h : Rep C w m tk v av)
  (hC : ∀ b o, C b o → C' b o) (hw : Same C w w') : Rep C' w' m tk v av := by
 cases av with
 | und => trivial
 | ptr b off => exact h
 | bsl b off sz n ag => exact h
 | gsl b i u sz n ag => obtain ⟨blk, h1, h2⟩ := h; exact ⟨blk, h1, h2.grow hw.2⟩
 | aggw cs =>
  obtain ⟨vs, h1, h2, h3⟩ := h
  exact ⟨vs, h1, h2, fun j c hj => ⟨(h3 j c hj).1, (h3 j c hj).2.1, (h3 j c hj).2.2.mono hC hw⟩⟩
 | tupw cs =>
  obtain ⟨vs, h1, h2, h3⟩ := h
  exact ⟨vs, h1, h2, fun j c hj => (h3 j c hj).mono hC hw⟩
 | lsl sz n cs =>
  obtain ⟨blk, f, h1, h2, h3⟩ := h
  refine ⟨blk, f, h1, h2, fun j c hj => ?_⟩
  obtain ⟨k1, k2, k3, k4, k5⟩ := h3 j c hj
  exact ⟨hC _ _ k1, by rw [hw.1 _ _ k1]; exact k2, k3, k4, k5.mono hC hw⟩
 | sl sz es md =>
  cases md with
  | sh => exact Rep0.mono h hC hw
  | full => exact ⟨Rep0.mono h.1 hC hw, h.2⟩
  | own k => exact ⟨Rep0.mono h.1 hC hw, h.2⟩
 | clw f first caps =>
  obtain ⟨vf, vc, h1, h2, h3, h4, h5⟩ := h
  exact ⟨vf, vc, h1, h2, h3, fun j c hj => ⟨(h4 j c hj).1, (h4 j c hj).2.mono hC hw⟩, fun j c hj => ⟨(h5 j c hj).1, (h5 j c hj).2.mono hC hw⟩⟩
 | _ => exact Rep0.mono h hC hw
theorem Rep1.ext {C : Nat → Nat → Prop} {w : World} {m m' : Nat → Option Nat} {v : Value} {av : AV} (h : Rep1 C w m v av)
  (hm : ∀ b blk, m b = some blk → m' b = some blk) : Rep1 C w m' v av := by
 cases av with
 | ptr b off => obtain ⟨blk, h1, h2⟩ := h; exact ⟨blk, hm _ _ h1, h2⟩
 | bsl b off sz n ag => obtain ⟨blk, cap, h1, h2⟩ := h; exact ⟨blk, cap, hm _ _ h1, h2⟩
 | gsl b i u sz n ag => obtain ⟨blk, h1, h2⟩ := h; exact ⟨blk, hm _ _ h1, h2⟩
 | _ => exact h
theorem RepT.ext {C : Nat → Nat → Prop} {w : World} {m m' : Nat → Option Nat} {tk tk' : Nat → Option TK} {v : Value} {av : AV} (h : RepT C w m tk v av)
  (hm : ∀ b blk, m b = some blk → m' b = some blk) (ht : ∀ k T, tk k = some T → ∃ T', tk' k = some T' ∧ T'.sz = T.sz ∧ T.tip ≤ T'.tip ∧ (T'.tip = T.tip → T' = T)) : RepT C w m' tk' v av := by
 cases av with
 | sl sz es md =>
  cases md with
  | own k =>
   obtain ⟨h0, T, h1, h2, h3, h4⟩ := h
   obtain ⟨T', h1', h2', h3', h4'⟩ := ht _ _ h1
   refine ⟨h0, T', h1', h2'.trans h2, Nat.le_trans h3 h3', fun he => ?_⟩
   have : T' = T := h4' (by omega)
   subst this
   exact h4 he
  | sh => exact h
  | full => exact h
 | ptr b off => exact Rep1.ext (C := C) (w := w) (av := .ptr b off) h hm
 | bsl b off sz n ag => exact Rep1.ext (C := C) (w := w) (av := .bsl b off sz n ag) h hm
 | gsl b i u sz n ag => exact Rep1.ext (C := C) (w := w) (av := .gsl b i u sz n ag) h hm
 | _ => exact h
theorem Rep.ext {C : Nat → Nat → Prop} {w : World} {m m' : Nat → Option Nat} {tk tk' : Nat → Option TK} {v : Value} {av : AV} (h : Rep C w m tk v av)
  (hm : ∀ b blk, m b = some blk → m' b = some blk) (ht : ∀ k T, tk k = some T → ∃ T', tk' k = some T' ∧ T'.sz = T.sz ∧ T.tip ≤ T'.tip ∧ (T'.tip = T.tip → T' = T)) : Rep C w m' tk' v av := by
 cases av with
 | ptr b off => obtain ⟨blk, h1, h2⟩ := h; exact ⟨blk, hm _ _ h1, h2⟩
 | bsl b off sz n ag => obtain ⟨blk, cap, h1, h2⟩ := h; exact ⟨blk, cap, hm _ _ h1, h2⟩
 | gsl b i u sz n ag => obtain ⟨blk, h1, h2⟩ := h; exact ⟨blk, hm _ _ h1, h2⟩
 | aggw cs =>
  obtain ⟨vs, h1, h2, h3⟩ := h
  exact ⟨vs, h1, h2, fun j c hj => ⟨(h3 j c hj).1, (h3 j c hj).2.1, (h3 j c hj).2.2.ext hm⟩⟩
 | tupw cs =>
  obtain ⟨vs, h1, h2, h3⟩ := h
  exact ⟨vs, h1, h2, fun j c hj => (h3 j c hj).ext hm ht⟩
 | lsl sz n cs =>
  obtain ⟨blk, f, h1, h2, h3⟩ := h
  refine ⟨blk, f, h1, h2, fun j c hj => ?_⟩
  obtain ⟨k1, k2, k3, k4, k5⟩ := h3 j c hj
  exact ⟨k1, k2, k3, k4, k5.ext hm⟩
 | sl sz es md =>
  cases md with
  | own k =>
   obtain ⟨h0, T, h1, h2, h3, h4⟩ := h
   obtain ⟨T', h1', h2', h3', h4'⟩ := ht _ _ h1
   refine ⟨h0, T', h1', h2'.trans h2, Nat.le_trans h3 h3', fun he => ?_⟩
   have : T' = T := h4' (by omega)
   subst this
   exact h4 he
  | _ => exact h
 | clw f first caps =>
  obtain ⟨vf, vc, h1, h2, h3, h4, h5⟩ := h
  exact ⟨vf, vc, h1, h2, h3, fun j c hj => ⟨(h4 j c hj).1, (h4 j c hj).2.ext hm⟩, fun j c hj => ⟨(h5 j c hj).1, (h5 j c hj).2.ext hm⟩⟩
 | _ => exact h
theorem same_of_below {C : Nat → Nat → Prop} {w w' : World} (hC : CVal C w) (h : Below w.heap.size w w') : Same C w w' :=
 ⟨fun b o hb => h.cell (p := ⟨b, o, none⟩) (hC b o hb), fun blk k ⟨vs, ty, h1, h2⟩ => ⟨vs, ty, by rw [h.block _ (Array.getElem?_eq_some_iff.1 h1).1]; exact h1, h2⟩⟩
theorem cell_block0 {w : World} {a : Addr} {v : Value} (h : w.cell? a = some v) : a.block < w.heap.size := by
 unfold World.cell? at h
 split at h
 ·rename_i hb
  exact (Array.getElem?_eq_some_iff.1 hb).1
 ·simp at h
theorem gf_below {C C' : Nat → Nat → Prop} {w w' : World} (h : GF C w) (hC : ∀ b o, C b o → C' b o) (hb : Below w.heap.size w w') : GF C' w' := fun x hx => by
 obtain ⟨h1, h2⟩ := h x hx
 exact ⟨hC _ _ h1, by rw [hb.cell (p := ⟨x.1, x.2.1, none⟩) (cell_block0 h2)]; exact h2⟩
theorem Rel.gfw {N : Cfg} {C0 : Nat → Nat → Prop} {w0 : World} {σ : AS} {a : Act} {w : World} {C : Nat → Nat → Prop} {m : Nat → Option Nat} {tk : Nat → Option TK} {own : Nat → Option (Nat ⊕ Nat)}
  (h : Rel N C0 w0 σ a w C m tk own) : CVg C w := ⟨h.cval, gf_below h.gf h.c0 h.below⟩
theorem Rel.later {N : Cfg} {C0 : Nat → Nat → Prop} {w0 : World} {σ : AS} {a : Act} {w w' : World} {C C' : Nat → Nat → Prop} {m : Nat → Option Nat} {tk : Nat → Option TK} {own : Nat → Option (Nat ⊕ Nat)}
  (h : Rel N C0 w0 σ a w C m tk own) (hb : Below w.heap.size w w') (hC : ∀ b o, C b o → C' b o) (hC' : ∀ b o, C' b o → C b o ∨ w.heap.size ≤ b) (hv : CVal C' w') : Rel N C0 w0 σ a w' C' m tk own := by
 have hs := same_of_below h.cval hb
 have hsz : w0.heap.size ≤ w.heap.size := h.below.size
 refine { gf := h.gf, below := h.below.trans (hb.mono hsz), c0 := fun b o x => hC _ _ (h.c0 b o x), cnew := ?_, cval := hv, nc := h.nc.mono (nc_below hb), ext := fun p hp t => (h.ext p hp t).mono hC hs, size := h.size, slots := fun t => (h.slots t).mono hC hs, boxes := ?_, mdom := h.mdom, toks := ?_, tdom := h.tdom, owned := ?_, owns := h.owns }
 ·intro b o x
  rcases hC' b o x with y | y
  ·exact h.cnew b o y
  ·exact .inr (by omega)
 ·intro b bx hx
  obtain ⟨blk, h1, h2⟩ := h.boxes b bx hx
  refine ⟨blk, h1, ?_⟩
  unfold BoxOK at h2 ⊢
  cases hf : bx.frz with
  | true =>
   simp only [hf] at h2 ⊢
   intro j av hj
   obtain ⟨c1, c2, v, c3, c4⟩ := h2 j av hj
   exact ⟨hC _ _ c1, c2, v, by rw [hs.1 _ _ c1]; exact c3, c4.mono hC hs⟩
  | false =>
   simp only [hf] at h2 ⊢
   rcases h2 with h2 | h2
   ·exact .inl h2
   refine .inr ?_
   obtain ⟨c1, c2, c3, vs, ty, c4, c5, c6⟩ := h2
   have hlt := h.owned _ _ c1
   refine ⟨c1, c2, ?_, vs, ty, by rw [hb.block _ hlt]; exact c4, c5, fun j av hj => ?_⟩
   ·intro o ho
    rcases hC' _ _ ho with y | y
    ·exact c3 o y
    ·omega
   ·obtain ⟨d1, d2, d3⟩ := c6 j av hj
    exact ⟨d1, d2, d3.mono hC hs⟩
 ·intro k n hk
  obtain ⟨T, h1, h2, h3, h4⟩ := h.toks k n hk
  refine ⟨T, h1, h2, h3, fun hlt => ?_⟩
  obtain ⟨blk, c1, c2, c3, c4, vs, ty, c5, c6⟩ := h4 hlt
  have hlt' := h.owned _ _ c2
  refine ⟨blk, c1, c2, c3, ?_, vs, ty, by rw [hb.block _ hlt']; exact c5, c6⟩
  intro o ho hc
  rcases hC' _ _ hc with y | y
  ·exact c4 o ho y
  ·omega
 ·intro blk x hx
  exact Nat.lt_of_lt_of_le (h.owned _ _ hx) hb.size
theorem get_put {d : Option Nat} {v : AV} {σ : AS} (t : Nat) : get (put d v σ).fr t = if d = some t then v else get σ.fr t := by
 cases d with
 | none => simp [put]
 | some d =>
  simp only [put, get]
  by_cases h : d = t
  ·simp [h]
  ·simp [h]
theorem Rel.put {N : Cfg} {C0 : Nat → Nat → Prop} {w0 : World} {σ : AS} {a : Act} {w : World} {C : Nat → Nat → Prop} {m : Nat → Option Nat} {tk : Nat → Option TK} {own : Nat → Option (Nat ⊕ Nat)}
  (h : Rel N C0 w0 σ a w C m tk own) {d : Option Nat} (hd : ∀ t, d = some t → t < N.n) {v : Value} {av : AV} (hv : Rep C w m tk v av) : Rel N C0 w0 (put d av σ) (a.put d v) w C m tk own := by
 have hfr : ∀ t, Rep C w m tk ((a.put d v).tmps[t]?.getD undef) (get (V.put d av σ).fr t) := by
  intro t
  rw [get_put]
  cases d with
  | none => simpa [Act.put] using h.slots t
  | some d =>
   have hlt : d < a.tmps.size := by rw [h.size]; exact hd d rfl
   by_cases hdt : d = t
   ·subst hdt
    simpa [Act.put, hlt] using hv
   ·simpa [Act.put, Array.getElem?_setIfInBounds_ne hdt, hdt] using h.slots t
 refine { gf := h.gf, below := h.below, c0 := h.c0, cnew := h.cnew, cval := h.cval, nc := ?_, ext := ?_, size := ?_, slots := hfr, boxes := ?_, mdom := ?_, toks := ?_, tdom := ?_, owned := h.owned, owns := h.owns }
 ·cases d <;> exact h.nc
 ·cases d <;> exact h.ext
 ·cases d <;> simpa [Act.put] using h.size
 all_goals (cases d <;> first | exact h.boxes | exact h.mdom | exact h.toks | exact h.tdom)
theorem getB_app (l hp : List (Nat × BX)) (c : Nat) : getB (l ++ hp) c = match getB l c with | some x => some x | none => getB hp c := by
 induction l with
 | nil => rfl
 | cons p r ih =>
  obtain ⟨b, x⟩ := p
  simp only [List.cons_append, getB]
  by_cases h : b = c
  ·rw [if_pos h, if_pos h]
  ·rw [if_neg h, if_neg h, ih]
theorem gsB_mem {b c : Nat} {l : List (Nat × Nat × BX)} (h : (getB (gsB b l) c).isSome = true) : ∃ p ∈ l, c = K b p.1 p.2.1 := by
 induction l with
 | nil => simp [gsB, getB] at h
 | cons q r ih =>
  simp only [gsB, List.map_cons, getB] at h
  by_cases e : K b q.1 q.2.1 = c
  ·exact ⟨q, by simp, e.symm⟩
  ·rw [if_neg e] at h
   obtain ⟨p, hp, e2⟩ := ih h
   exact ⟨p, by simp [hp], e2⟩
def CtrS (P : Program) (f : FuncId) (args : List AV) (res : AV) (bs : List (Nat × BX)) : Prop :=
 callable P f = true ∧
 ∀ (C : Nat → Nat → Prop) (w : World) (vs : Array Value), CVg C w → Reps0 C w vs args →
  Calls P f vs w fun e w' => ∃ v C' m' own', e = .returned v ∧ Below w.heap.size w w' ∧ CVal C' w' ∧ (∀ b o, C b o → C' b o) ∧ (∀ b o, C' b o → C b o ∨ w.heap.size ≤ b) ∧
   Rep C' w' m' (fun _ => none) v res ∧ (∀ b bx, getB bs b = some bx → ∃ blk, m' b = some blk ∧ BoxOK w.heap.size C' w' m' (fun _ => none) own' b bx blk) ∧ (∀ b blk, m' b = some blk → (getB bs b).isSome = true) ∧
   ∀ blk x, own' blk = some x → blk < w'.heap.size ∧ w.heap.size ≤ blk
theorem BoxOK.ext {n n' : Nat} {C : Nat → Nat → Prop} {w : World} {m m' : Nat → Option Nat} {tk tk' : Nat → Option TK} {own own' : Nat → Option (Nat ⊕ Nat)} {b : Nat} {bx : BX} {blk : Nat}
  (h : BoxOK n C w m tk own b bx blk) (hn : n' ≤ n) (hm : ∀ b blk, m b = some blk → m' b = some blk) (ht : ∀ k T, tk k = some T → ∃ T', tk' k = some T' ∧ T'.sz = T.sz ∧ T.tip ≤ T'.tip ∧ (T'.tip = T.tip → T' = T))
  (ho : ∀ x, own blk = some x → own' blk = some x) : BoxOK n' C w m' tk' own' b bx blk := by
 unfold BoxOK at h ⊢
 cases hf : bx.frz with
 | true =>
  simp only [hf] at h ⊢
  exact h
 | false =>
  simp only [hf] at h ⊢
  rcases h with h | ⟨h1, h2, h3, vs, ty, h4, h5, h6⟩
  ·exact .inl h
  ·exact .inr ⟨ho _ h1, by omega, h3, vs, ty, h4, h5, fun j av hj => ⟨(h6 j av hj).1, (h6 j av hj).2.1, (h6 j av hj).2.2.ext hm ht⟩⟩
theorem Rel.addS {N : Cfg} {C0 : Nat → Nat → Prop} {w0 : World} {σ : AS} {a : Act} {w : World} {C : Nat → Nat → Prop} {m m' : Nat → Option Nat} {tk : Nat → Option TK} {own own' : Nat → Option (Nat ⊕ Nat)}
  (h : Rel N C0 w0 σ a w C m tk own) {sz : Nat} (hsz : w0.heap.size ≤ sz) (hown : ∀ blk x, own blk = some x → blk < sz) {bs : List (Nat × BX)} (hfr : ∀ b, (getB bs b).isSome = true → getB σ.hp b = none)
  (hb : ∀ b bx, getB bs b = some bx → ∃ blk, m' b = some blk ∧ BoxOK sz C w m' (fun _ => none) own' b bx blk) (hd : ∀ b blk, m' b = some blk → (getB bs b).isSome = true)
  (ho : ∀ blk x, own' blk = some x → blk < w.heap.size ∧ sz ≤ blk) :
  Rel N C0 w0 { σ with hp := bs ++ σ.hp } a w C (fun b => match m' b with | some x => some x | none => m b) tk (fun b => match own' b with | some x => some x | none => own b) := by
 have hm1 : ∀ b blk, m b = some blk → (match m' b with | some x => some x | none => m b) = some blk := by
  intro b blk e
  cases hq : m' b with
  | none => exact e
  | some x =>
   have h1 := hfr b (hd b x hq)
   have h2 := h.mdom b blk e
   rw [h1] at h2
   simp at h2
 have ho1 : ∀ blk x, own blk = some x → (match own' blk with | some x => some x | none => own blk) = some x := by
  intro blk x e
  cases hq : own' blk with
  | none => exact e
  | some y =>
   have h1 := (ho blk y hq).2
   have h2 := hown blk x e
   omega
 have hti : ∀ k T, tk k = some T → ∃ T', tk k = some T' ∧ T'.sz = T.sz ∧ T.tip ≤ T'.tip ∧ (T'.tip = T.tip → T' = T) := fun k T e => ⟨T, e, rfl, Nat.le_refl _, fun _ => rfl⟩
 refine { gf := h.gf, below := h.below, c0 := h.c0, cnew := h.cnew, cval := h.cval, nc := h.nc, ext := fun p hp t => (h.ext p hp t).ext hm1 hti, size := h.size, slots := fun t => (h.slots t).ext hm1 hti, boxes := ?_, mdom := ?_, toks := ?_, tdom := h.tdom, owned := ?_, owns := ?_ }
 ·intro b bx e
  rw [getB_app] at e
  cases hq : getB bs b with
  | some x =>
   rw [hq] at e
   injection e with e
   subst e
   obtain ⟨blk, h1, h2⟩ := hb b x hq
   refine ⟨blk, by simp only [h1], h2.ext hsz (fun b blk e => by simp only [e]) (fun k T e => by cases e) fun x e => by simp only [e]⟩
  | none =>
   rw [hq] at e
   obtain ⟨blk, h1, h2⟩ := h.boxes b bx e
   exact ⟨blk, hm1 b blk h1, h2.ext (Nat.le_refl _) hm1 hti fun x e => ho1 _ _ e⟩
 ·intro b blk e
  show (getB (bs ++ σ.hp) b).isSome = true
  rw [getB_app]
  cases hq : getB bs b with
  | some x => rfl
  | none =>
   cases hq2 : m' b with
   | some x =>
    have := hd b x hq2
    rw [hq] at this
    simp at this
   | none =>
    simp only [hq2] at e
    exact h.mdom b blk e
 ·intro k n e
  obtain ⟨T, h1, h2, h3, h4⟩ := h.toks k n e
  exact ⟨T, h1, h2, h3, fun hlt => by
   obtain ⟨blk, c1, c2, c3⟩ := h4 hlt
   exact ⟨blk, c1, ho1 _ _ c2, c3⟩⟩
 ·intro blk x e
  cases hq : own' blk with
  | some y => exact (ho blk y hq).1
  | none =>
   simp only [hq] at e
   exact h.owned blk x e
 ·intro blk x e
  cases hq : own' blk with
  | some y =>
   have := (ho blk y hq).2
   omega
  | none =>
   simp only [hq] at e
   exact h.owns blk x e
end Go.V

set_option linter.unusedSimpArgs false
set_option linter.unusedVariables false
set_option linter.unnecessarySimpa false
namespace Go.V
open Go Go.RowKit
theorem chunks_length (ag : Bool) (sz : Nat) (cells : List AV) : ∀ (n off : Nat), (chunks ag sz cells off n).length = n
 | 0, _ => rfl
 | n + 1, off => by simp [chunks, chunks_length ag sz cells n]
theorem chunks_get (ag : Bool) (sz : Nat) (cells : List AV) : ∀ (n off i : Nat), i < n → (chunks ag sz cells off n)[i]? = some (chunk ag sz cells (off + i * sz))
 | 0, _, _, h => by omega
 | n + 1, off, 0, _ => by simp [chunks]
 | n + 1, off, i + 1, h => by
  simp only [chunks, List.getElem?_cons_succ]
  rw [chunks_get ag sz cells n (off + sz) i (by omega), Nat.add_mul, Nat.one_mul, Nat.add_assoc, Nat.add_comm sz]
theorem chunk_cells (ag : Bool) (sz : Nat) (cells : List AV) (off : Nat) (h : off + sz ≤ cells.length) (hag : ag = true ∨ sz = 1) (hk : ∀ (j : Nat) (c : AV), cells[j]? = some c → c.isCell = true) :
  (chunk ag sz cells off).cells.length = sz ∧ (chunk ag sz cells off).isElem = true ∧ ∀ (j : Nat) (c : AV), (chunk ag sz cells off).cells[j]? = some c → j < sz ∧ cells[off + j]? = some c := by
 unfold chunk
 cases ag with
 | true =>
  simp only [if_true, AV.cells, List.length_take, List.length_drop, AV.isElem, true_and]
  refine ⟨by omega, fun j c hj => ?_⟩
  rw [List.getElem?_take] at hj
  split at hj
  ·rename_i hlt
   exact ⟨hlt, by simpa using hj⟩
  ·simp at hj
 | false =>
  have h1 : sz = 1 := by simpa using hag
  subst h1
  have hlt : off < cells.length := by omega
  have hc := hk off cells[off] (by simp [hlt])
  simp only [Bool.false_eq_true, if_false, List.getElem?_eq_getElem hlt, Option.getD_some]
  have hcs : cells[off].cells = [cells[off]] := by
   revert hc
   cases cells[off] <;> simp [AV.isCell, AV.cells]
  have he : cells[off].isElem = true := by
   revert hc
   cases cells[off] <;> simp [AV.isCell, AV.isElem]
  rw [hcs]
  refine ⟨rfl, he, fun j c hj => ?_⟩
  cases j with
  | zero => simp at hj; subst hj; exact ⟨by omega, by simp [hlt]⟩
  | succ j => simp at hj
section
variable {N : Cfg} {C0 : Nat → Nat → Prop} {w0 : World} {σ : AS} {a : Act} {w : World} {C : Nat → Nat → Prop} {m : Nat → Option Nat} {tk : Nat → Option TK} {own : Nat → Option (Nat ⊕ Nat)}
theorem rep1_toRep {v : Value} {av : AV} (hv : Rep1 C w m v av) : Rep C w m tk v av := by
 cases av <;> first | exact hv | exact Rep0.toRep (C := C) (w := w) hv
theorem repT_toRep {v : Value} {av : AV} (hv : RepT C w m tk v av) : Rep C w m tk v av := by
 cases av with
 | sl sz es md =>
  cases md with
  | own k => exact hv
  | sh => exact rep1_toRep (m := m) (av := .sl sz es .sh) hv
  | full => exact rep1_toRep (m := m) (av := .sl sz es .full) hv
 | ptr b off => exact hv
 | bsl b off sz n ag => exact hv
 | gsl b i u sz n ag => exact hv
 | _ => exact Rep0.toRep (C := C) (w := w) hv
theorem strip1_rep (h : Rel N C0 w0 σ a w C m tk own) {v : Value} {av : AV} (hv : Rep C w m tk v av) (hna : ∀ cs, av ≠ .aggw cs) (hok : strip1 σ.hp av ≠ .und) : Rep0 C w v (strip1 σ.hp av) := by
 cases av with
 | und => exact absurd rfl hok
 | aggw cs => exact absurd rfl (hna cs)
 | lsl sz n cs => exact absurd rfl hok
 | tupw cs => exact absurd rfl hok
 | ptr b off =>
  obtain ⟨blk, h1, rfl⟩ := hv
  simp only [strip1] at hok ⊢
  cases hg : getB σ.hp b with
  | none => simp [hg] at hok
  | some bx =>
   obtain ⟨cells, fz⟩ := bx
   cases fz with
   | false => simp [hg] at hok
   | true =>
    simp only
    obtain ⟨blk', h2, h3⟩ := h.boxes b _ hg
    rw [h1] at h2
    obtain rfl : blk = blk' := by simpa using h2
    simp only [BoxOK] at h3
    have hz : ∀ (i : Nat) (e : AV), ([AV.agg cells] : List AV)[i]? = some e → i = 0 ∧ e = .agg cells := by
     intro i e he
     cases i with
     | zero => simp at he; exact ⟨rfl, he.symm⟩
     | succ i => simp at he
    have hi0 : ∀ i, i < ([AV.agg cells] : List AV).length → i = 0 := fun i hi => by simp at hi; exact hi
    refine .ref blk 0 cells.length 0 off off [.agg cells] (fun _ j => (w.cell? ⟨blk, j, none⟩).getD undef) (by omega) ?_ ?_ ?_ ?_ ?_ ?_
    ·intro i e he; obtain ⟨rfl, rfl⟩ := hz i e he; rfl
    ·intro i e he; obtain ⟨rfl, rfl⟩ := hz i e he; rfl
    ·intro i j hi hj
     obtain rfl := hi0 i hi
     have := (h3 j cells[j] (by simp [hj])).1
     simpa using this
    ·intro i j hi hj
     obtain rfl := hi0 i hi
     obtain ⟨_, _, u, hu, _⟩ := h3 j cells[j] (by simp [hj])
     simp [hu]
    ·intro i e he j c hj
     obtain ⟨rfl, rfl⟩ := hz i e he
     exact (h3 j c hj).2.1
    ·intro i e he j c hj
     obtain ⟨rfl, rfl⟩ := hz i e he
     obtain ⟨_, _, u, hu, hr⟩ := h3 j c hj
     simpa [hu] using hr
 | bsl b off sz n ag =>
  obtain ⟨blk, cap, h1, hcap, rfl⟩ := hv
  simp only [strip1] at hok ⊢
  cases hg : getB σ.hp b with
  | none => simp [hg] at hok
  | some bx =>
   obtain ⟨cells, fz⟩ := bx
   cases fz with
   | false => exact absurd (by rw [hg]) hok
   | true =>
    by_cases hcond : off + n * sz ≤ cells.length ∧ (ag = true ∨ sz = 1)
    ·simp only [if_pos hcond]
     obtain ⟨hlen, hag⟩ := hcond
     obtain ⟨blk', h2, h3⟩ := h.boxes b _ hg
     rw [h1] at h2
     obtain rfl : blk = blk' := by simpa using h2
     simp only [BoxOK] at h3
     cases n with
     | zero => exact .sl0 _ _ _
     | succ k =>
      have hk : ∀ (j : Nat) (c : AV), cells[j]? = some c → c.isCell = true := fun j c hj => (h3 j c hj).2.1
      have hfit : ∀ i, i < k + 1 → off + i * sz + sz ≤ cells.length := by
       intro i hi
       have : (i + 1) * sz ≤ (k + 1) * sz := Nat.mul_le_mul_right _ (by omega)
       rw [Nat.add_mul, Nat.one_mul] at this
       omega
      have hget : ∀ (i : Nat) (e : AV), (chunks ag sz cells off (k + 1))[i]? = some e → i < k + 1 ∧ e = chunk ag sz cells (off + i * sz) := by
       intro i e he
       by_cases hi : i < k + 1
       ·rw [chunks_get _ _ _ _ _ _ hi] at he
        exact ⟨hi, by simpa using he.symm⟩
       ·rw [List.getElem?_eq_none (by rw [chunks_length]; omega)] at he
        simp at he
      refine .sl blk off (k + 1) cap sz _ (fun i j => (w.cell? ⟨blk, off + i * sz + j, none⟩).getD undef) (chunks_length _ _ _ _ _).symm hcap ?_ ?_ ?_ ?_ ?_ ?_
      ·intro i e he
       obtain ⟨hi, rfl⟩ := hget i e he
       exact (chunk_cells ag sz cells _ (hfit i hi) hag hk).1
      ·intro i e he
       obtain ⟨hi, rfl⟩ := hget i e he
       exact (chunk_cells ag sz cells _ (hfit i hi) hag hk).2.1
      ·intro i j hi hj
       rw [chunks_length] at hi
       have hlt : off + i * sz + j < cells.length := by have := hfit i hi; omega
       exact (h3 _ cells[off + i * sz + j] (by simp [hlt])).1
      ·intro i j hi hj
       rw [chunks_length] at hi
       have hlt : off + i * sz + j < cells.length := by have := hfit i hi; omega
       obtain ⟨_, _, u, hu, _⟩ := h3 (off + i * sz + j) cells[off + i * sz + j] (by simp [hlt])
       simp [hu]
      ·intro i e he j c hj
       obtain ⟨hi, rfl⟩ := hget i e he
       exact hk _ _ ((chunk_cells ag sz cells _ (hfit i hi) hag hk).2.2 j c hj).2
      ·intro i e he j c hj
       obtain ⟨hi, rfl⟩ := hget i e he
       obtain ⟨_, hc⟩ := (chunk_cells ag sz cells _ (hfit i hi) hag hk).2.2 j c hj
       obtain ⟨_, _, u, hu, hr⟩ := h3 _ c hc
       simpa [hu] using hr
    ·simp only [hg, if_neg hcond] at hok
     exact absurd rfl hok
 | gsl b0 i0 u0 sz n ag =>
  obtain ⟨blk, h1, hgv⟩ := hv
  simp only [strip1] at hok ⊢
  cases hg : getB σ.hp (K b0 i0 u0) with
  | none => simp [hg] at hok
  | some bx =>
   obtain ⟨cells, fz⟩ := bx
   cases fz with
   | false => exact absurd (by rw [hg]) hok
   | true =>
    by_cases hcond : n * sz ≤ cells.length ∧ (ag = true ∨ sz = 1)
    ·simp only [if_pos hcond]
     obtain ⟨hlen, hag⟩ := hcond
     obtain ⟨blk', h2, h3⟩ := h.boxes _ _ hg
     rw [h1] at h2
     obtain rfl : blk = blk' := by simpa using h2
     simp only [BoxOK] at h3
     cases n with
     | zero =>
      rcases hgv with ⟨_, a', rfl⟩ | ⟨h0, _⟩
      ·exact .sl0 _ _ _
      ·omega
     | succ k =>
      rcases hgv with ⟨h0, _⟩ | ⟨_, cap, hcap, rfl, _⟩
      ·omega
      have hk : ∀ (j : Nat) (c : AV), cells[j]? = some c → c.isCell = true := fun j c hj => (h3 j c hj).2.1
      have hfit : ∀ i, i < k + 1 → i * sz + sz ≤ cells.length := by
       intro i hi
       have : (i + 1) * sz ≤ (k + 1) * sz := Nat.mul_le_mul_right _ (by omega)
       rw [Nat.add_mul, Nat.one_mul] at this
       omega
      have hget : ∀ (i : Nat) (e : AV), (chunks ag sz cells 0 (k + 1))[i]? = some e → i < k + 1 ∧ e = chunk ag sz cells (i * sz) := by
       intro i e he
       by_cases hi : i < k + 1
       ·rw [chunks_get _ _ _ _ _ _ hi] at he
        exact ⟨hi, by simpa using he.symm⟩
       ·rw [List.getElem?_eq_none (by rw [chunks_length]; omega)] at he
        simp at he
      refine .sl blk 0 (k + 1) cap sz _ (fun i j => (w.cell? ⟨blk, i * sz + j, none⟩).getD undef) (chunks_length _ _ _ _ _).symm hcap ?_ ?_ ?_ ?_ ?_ ?_
      ·intro i e he
       obtain ⟨hi, rfl⟩ := hget i e he
       exact (chunk_cells ag sz cells _ (hfit i hi) hag hk).1
      ·intro i e he
       obtain ⟨hi, rfl⟩ := hget i e he
       exact (chunk_cells ag sz cells _ (hfit i hi) hag hk).2.1
      ·intro i j hi hj
       rw [Nat.zero_add]
       rw [chunks_length] at hi
       have hlt : i * sz + j < cells.length := by have := hfit i hi; omega
       exact (h3 _ cells[i * sz + j] (by simp [hlt])).1
      ·intro i j hi hj
       rw [Nat.zero_add]
       rw [chunks_length] at hi
       have hlt : i * sz + j < cells.length := by have := hfit i hi; omega
       obtain ⟨_, _, u, hu, _⟩ := h3 (i * sz + j) cells[i * sz + j] (by simp [hlt])
       simp [hu]
      ·intro i e he j c hj
       obtain ⟨hi, rfl⟩ := hget i e he
       exact hk _ _ ((chunk_cells ag sz cells _ (hfit i hi) hag hk).2.2 j c hj).2
      ·intro i e he j c hj
       obtain ⟨hi, rfl⟩ := hget i e he
       obtain ⟨_, hc⟩ := (chunk_cells ag sz cells _ (hfit i hi) hag hk).2.2 j c hj
       obtain ⟨_, _, u, hu, hr⟩ := h3 _ c hc
       simpa [hu] using hr
    ·simp only [hg, if_neg hcond] at hok
     exact absurd rfl hok
 | clw f first caps => exact absurd rfl hok
 | sl sz es md =>
  cases md with
  | sh => exact hv
  | full => exact hv.1
  | own k => exact hv.1
 | _ => exact hv
theorem strip_rep (h : Rel N C0 w0 σ a w C m tk own) {v : Value} {av : AV} (hv : Rep C w m tk v av) (hok : strip σ.hp av ≠ .und) : Rep0 C w v (strip σ.hp av) := by
 by_cases hna : ∃ cs, av = .aggw cs
 ·obtain ⟨cs, rfl⟩ := hna
  obtain ⟨vs, rfl, h2, h3⟩ := hv
  simp only [strip]
  have key : ∀ (j : Nat) (c : AV), (cs.map (strip1 σ.hp))[j]? = some c → c.isCell = true ∧ Rep0 C w (vs[j]?.getD undef) c := by
   intro j c hj
   rw [List.getElem?_map] at hj
   obtain ⟨c0, hj0, rfl⟩ := Option.map_eq_some_iff.1 hj
   obtain ⟨k1, k2, k3⟩ := h3 j c0 hj0
   have hcell : (strip1 σ.hp c0).isCell = true := by
    cases c0 <;> simp only [strip1] <;> first | exact k1 | rfl | skip
    all_goals (split <;> first | rfl | skip)
    all_goals (split <;> rfl)
   refine ⟨hcell, ?_⟩
   by_cases hu : strip1 σ.hp c0 = .und
   ·rw [hu]; exact .und _ k2
   ·exact strip1_rep h (rep1_toRep k3) (by rintro cs rfl; simp [AV.isCell] at k1) hu
  exact .agg vs _ (by simpa using h2) (fun j c hj => (key j c hj).1) (fun j c hj => (key j c hj).2)
 ·have hna' : ∀ cs, av ≠ .aggw cs := fun cs e => hna ⟨cs, e⟩
  have e : strip σ.hp av = strip1 σ.hp av := by cases av <;> first | rfl | exact absurd rfl (hna' _)
  rw [e] at hok ⊢
  exact strip1_rep h hv hna' hok
theorem rep_cells (h : Rel N C0 w0 σ a w C m tk own) {v : Value} {av : AV} (hv : Rep C w m tk v av) (hok : av.okv = true) :
  v.cells.size = av.cells.length ∧ ∀ (j : Nat) (c : AV), av.cells[j]? = some c → c.isCell = true ∧ (v.cells[j]?.getD undef).oneCell' = true ∧ Rep C w m tk (v.cells[j]?.getD undef) c := by
 have one : ∀ {u : Value} {x : AV}, x.cells = [x] → x.isCell = true → u.oneCell' = true → Rep C w m tk u x →
   u.cells.size = x.cells.length ∧ ∀ (j : Nat) (c : AV), x.cells[j]? = some c → c.isCell = true ∧ (u.cells[j]?.getD undef).oneCell' = true ∧ Rep C w m tk (u.cells[j]?.getD undef) c := by
  intro u x hx hk hu hr
  have hs : u.cells = #[u] := by cases u <;> first | rfl | (simp [Value.oneCell'] at hu)
  rw [hx, hs]
  refine ⟨rfl, fun j c hj => ?_⟩
  cases j with
  | zero => simp at hj; subst hj; exact ⟨hk, by simpa using hu, by simpa using hr⟩
  | succ j => simp at hj
 cases av with
 | und => simp [AV.okv] at hok
 | nul => simp [AV.okv] at hok
 | tup vs => simp [AV.okv] at hok
 | tupw vs => simp [AV.okv] at hok
 | lsl sz n cs => simp [AV.okv] at hok
 | gsl b i u sz n ag => exact one rfl rfl (by obtain ⟨_, _, h2⟩ := hv; rcases h2 with ⟨_, _, rfl⟩ | ⟨_, _, _, rfl, _⟩ <;> rfl) hv
 | aggw cs =>
  obtain ⟨vs, rfl, h2, h3⟩ := hv
  exact ⟨h2, fun j c hj => ⟨(h3 j c hj).1, (h3 j c hj).2.1, rep1_toRep (h3 j c hj).2.2⟩⟩
 | agg cs =>
  cases hv with
  | agg vs cs hn hk hr =>
   refine ⟨hn, fun j c hj => ?_⟩
   have h1 := hk j c hj
   have h2 := hr j c hj
   exact ⟨h1, h2.oneCell h1, h2.toRep⟩
 | int n => exact one rfl rfl (Rep0.oneCell hv rfl) hv
 | bool n => exact one rfl rfl (Rep0.oneCell hv rfl) hv
 | ref sz es i off => exact one rfl rfl (Rep0.oneCell hv rfl) hv
 | clo f first caps => exact one rfl rfl (Rep0.oneCell hv rfl) hv
 | yld l => exact one rfl rfl (Rep0.oneCell hv rfl) hv
 | mpr l => exact one rfl rfl (Rep0.oneCell hv rfl) hv
 | nilp => exact one rfl rfl (Rep0.oneCell hv rfl) hv
 | un b => exact one rfl rfl (Rep0.oneCell hv rfl) hv
 | clw f first caps => exact one rfl rfl (by obtain ⟨vf, vc, rfl, _⟩ := hv; rfl) hv
 | ptr b off => exact one rfl rfl (by obtain ⟨_, _, rfl⟩ := hv; rfl) hv
 | bsl b off sz n ag => exact one rfl rfl (by obtain ⟨_, _, _, _, rfl⟩ := hv; rfl) hv
 | sl sz es md =>
  refine one rfl rfl ?_ hv
  cases md with
  | sh => exact Rep0.oneCell (C := C) (w := w) hv rfl
  | full => exact Rep0.oneCell (C := C) (w := w) hv.1 rfl
  | own k => exact Rep0.oneCell (C := C) (w := w) hv.1 rfl
end
end Go.V

set_option linter.unusedSimpArgs false
set_option linter.unusedVariables false
set_option linter.unnecessarySimpa false
namespace Go.V
open Go Go.RowKit
section
variable (P : Program)
def szOf (t : TypeId) : Option Nat := (P.info? t).map (·.size)
def byOf (t : TypeId) : Option Nat := (P.info? t).map (·.bytes)
def aggOf (t : TypeId) : Option Bool :=
 match P.underlying t with
 | some (.struct _) | some (.array _ _) => some true
 | some _ => some false
 | none => none
def elOf (t : TypeId) : Option TypeId :=
 match P.underlying t with
 | some (.slice e) => some e
 | _ => none
def arOf (t : TypeId) : Option (Nat × TypeId) :=
 match P.underlying t with
 | some (.array n e) => some (n, e)
 | _ => none
def fldOf (t : TypeId) (i : Nat) : Option (Nat × TypeId) :=
 match P.underlying t with
 | some (.struct fs) => (fs[i]?).map fun f => (f.offset, f.type)
 | _ => none
def constC : Value → AV → Bool
 | .int .i64 n, .int k => n == k
 | .bool b, .bool c => b == c
 | .slice none 0 0, .sl _ [] .full => true
 | .nilFunc, .und => true
 | .pointer none, .und => true
 | .pointer none, .nilp => true
 | .int .u64 n, .un b => n == (b.toNat : Int)
 | .func (.func f) vf vc, .clo g [] [] => f == g && vf.size == 0 && vc.size == 0
 | _, _ => false
def constCs : List Value → List AV → Bool
 | [], [] => true
 | v :: vs, a :: as => constC v a && constCs vs as
 | _, _ => false
def isAgg1 : AV → Bool
 | .agg _ => true
 | _ => false
def constA : Value → AV → Bool
 | .agg vs, .agg cs => constCs0 vs.toList cs
 | v, a => constC v a
 where
 constCs0 : List Value → List AV → Bool
  | [], [] => true
  | v :: vs, a :: as => (match v, a with
    | .int .i64 n, .int k => n == k
    | .bool b, .bool c => b == c
    | .slice none 0 0, .sl _ [] .sh => true
    | .slice none 0 0, .sl _ [] .full => true
    | .nilFunc, .und => true
    | .pointer none, .und => true
    | .map none, .und => true
    | .int .u64 n, .un b => n == (b.toNat : Int)
    | _, _ => false) && constCs0 vs as
  | _, _ => false
def opd : Operand → VO → Bool
 | .tmp n, .t k => n == k
 | .const v, .k a => constA v a
 | .func f, .k (.clo g [] []) => f == g
 | .global g, .k (.ref sz [.agg cs] 0 0) => sz == cs.length && gref g cs
 | _, _ => false
def opds : List Operand → List VO → Bool
 | [], [] => true
 | x :: xs, y :: ys => opd x y && opds xs ys
 | _, _ => false
def opdo : Option Operand → Option VO → Bool
 | none, none => true
 | some x, some y => opd x y
 | _, _ => false
def intFields (P : Program) : List Field → Nat → Bool
 | [], _ => true
 | f :: fs, i => f.name != "_" && f.offset == i && aggOf P f.type == some false && (match P.underlying f.type with | some (.int _) => true | _ => false) && intFields P fs (i + 1)
def structInts (P : Program) (t : TypeId) (n : Nat) : Bool :=
 (match P.underlying t with
  | some (.struct fs) => intFields P fs.toList 0 && fs.toList.length == n
  | _ => false) && !P.stoodInHeld t && !P.eqGuardType P.depth t
def bk (P : Program) (op : BinOp) (t : TypeId) : BK → Bool
 | .add => op == .add | .sub => op == .sub | .mul => op == .mul | .quo => op == .quo | .rem => op == .rem
 | .lss => op == .lss | .leq => op == .leq | .gtr => op == .gtr | .geq => op == .geq | .eql => op == .eql | .neq => op == .neq
 | .beq => op == .eql && (match P.underlying t with | some .bool => true | _ => false)
 | .bne => op == .neq && (match P.underlying t with | some .bool => true | _ => false)
 | .seq n => op == .eql && structInts P t n
 | .sne n => op == .neq && structInts P t n
 | .shr => op == .shr | .shl => op == .shl | .band => op == .and | .bor => op == .or
def isNilS : Operand → Bool
 | .const (.slice none 0 0) => true
 | _ => false
def mop (o : Op) (v : VOp) : Bool :=
 match o, v with
 | .move x, .mov y => opd x y
 | .assign x, .mov y => opd x y
 | .binOp op t x y _, .bin k x' y' => bk P op t k && opd x x' && opd y y'
 | .unOp .not _ x, .not y => opd x y
 | .unOp .neg _ x, .neg y => opd x y
 | .pick c a b, .pick c' a' b' => opd c c' && opd a a' && opd b b'
 | .load t x, .load n ag y _ => opd x y && szOf P t == some n && aggOf P t == some ag && (ag || n == 1)
 | .fieldAddr t x i, .fld off y => opd x y && (match fldOf P t i with
  | some (o, ft) => o == off && (match szOf P ft with | some s => s != 0 | none => false)
  | none => false)
 | .indexAddr t x i, .idx sz x' i' => opd x x' && opd i i' && (match elOf P t with
  | some e => szOf P e == some sz
  | none => false)
 | .indexAddr t x i, .idxA n sz x' i' => opd x x' && opd i i' && (match arOf P t with
  | some (k, e) => k == n && szOf P e == some sz
  | none => false)
 | .field t x i, .fieldV off n ag y => opd x y && (match fldOf P t i with
  | some (o, ft) => o == off && szOf P ft == some n && aggOf P ft == some ag && (ag || n == 1)
  | none => false)
 | .index t x i, .indexV n sz ag x' i' => opd x x' && opd i i' && (match arOf P t with
  | some (k, e) => k == n && szOf P e == some sz && aggOf P e == some ag && (ag || sz == 1)
  | none => false)
 | .extract x i, .ext y j => opd x y && i == j
 | .nilCheck x, .nilck y => opd x y
 | .convert s t x, .cvu y => opd x y && (P.underlying s).isSome && (match P.underlying t with | some (.int .u64) => true | _ => false)
 | .binOp op t x z _, .nile y => op == .eql && opd x y && isNilS z && (match P.underlying t with | some (.slice _) => true | _ => false)
 | .call c, .len y => (match c.callee with | .builtin .len => true | _ => false) && opds c.args.toList [y] && (match c.argTypes.toList with
  | [t] => (elOf P t).isSome
  | _ => false)
 | .call c, .min x y => (match c.callee with | .builtin .min => true | _ => false) && opds c.args.toList [x, y]
 | .call c, .max x y => (match c.callee with | .builtin .max => true | _ => false) && opds c.args.toList [x, y]
 | .call c, .max3 x y z => (match c.callee with | .builtin .max => true | _ => false) && opds c.args.toList [x, y, z]
 | .slice t x lo hi mx, .slice sz y lo' hi' => opd x y && opdo lo lo' && opdo hi hi' && mx.isNone && (match elOf P t with
  | some e => szOf P e == some sz
  | none => false)
 | .slice t x lo hi mx, .sliceF sz y lo' hi' mx' => opd x y && opdo lo lo' && opdo hi hi' && opdo mx mx' && mx.isSome && hi.isSome && (match elOf P t with
  | some e => szOf P e == some sz
  | none => false)
 | .slice t x lo hi mx, .sliceA n sz ag y lo' hi' => opd x y && opdo lo lo' && opdo hi hi' && mx.isNone && (match arOf P t with
  | some (k, e) => k == n && szOf P e == some sz && aggOf P e == some ag && (ag || sz == 1)
  | none => false)
 | _, _ => false
end
section
variable {P : Program}
theorem run_szOf {t : TypeId} {n : Nat} (h : szOf P t = some n) (w : World) : (sizeOf t).run P w = .ok n w := by
 unfold szOf at h
 cases hi : P.info? t with
 | none => simp [hi] at h
 | some i => simp [hi] at h; simp [sizeOf, typeInfo, hi, h]
theorem run_aggOf {t : TypeId} {b : Bool} (h : aggOf P t = some b) (w : World) : (isAgg t).run P w = .ok b w := by
 unfold aggOf at h
 cases hu : P.underlying t with
 | none => simp [hu] at h
 | some d => cases d <;> (simp [hu] at h; subst h; simp [isAgg, run_underlying hu])
theorem elOf_spec {t e : TypeId} (h : elOf P t = some e) : P.underlying t = some (.slice e) := by
 unfold elOf at h
 cases hu : P.underlying t with
 | none => simp [hu] at h
 | some d => cases d <;> simp [hu] at h; subst h; rfl
theorem arOf_spec {t : TypeId} {n : Nat} {e : TypeId} (h : arOf P t = some (n, e)) : P.underlying t = some (.array n e) := by
 unfold arOf at h
 cases hu : P.underlying t with
 | none => simp [hu] at h
 | some d => cases d <;> simp [hu] at h; obtain ⟨rfl, rfl⟩ := h; rfl
theorem fldOf_spec {t : TypeId} {i o : Nat} {ft : TypeId} (h : fldOf P t i = some (o, ft)) : ∃ fs f, P.underlying t = some (.struct fs) ∧ fs[i]? = some f ∧ f.offset = o ∧ f.type = ft := by
 unfold fldOf at h
 cases hu : P.underlying t with
 | none => simp [hu] at h
 | some d =>
  cases d <;> simp [hu] at h
  rename_i fs
  obtain ⟨f, hf, h1, h2⟩ := h
  exact ⟨fs, f, rfl, hf, h1, h2⟩
variable {N : Cfg} {C0 : Nat → Nat → Prop} {w0 : World} {σ : AS} {a : Act} {w : World} {C : Nat → Nat → Prop} {m : Nat → Option Nat} {tk : Nat → Option TK} {own : Nat → Option (Nat ⊕ Nat)}
theorem constC_rep {v : Value} {av : AV} (h : constC v av = true) : Rep C w m tk v av := by
 unfold constC at h
 split at h
 ·rename_i n k; have : n = k := by simpa using h
  subst this; exact .int n
 ·rename_i b c; have : b = c := by simpa using h
  subst this; exact .bool b
 ·exact ⟨.sl0 _ _ _, none, rfl⟩
 ·trivial
 ·trivial
 ·exact Rep0.nilp
 ·rename_i n b
  have : n = (b.toNat : Int) := by simpa using h
  subst this; exact Rep0.un b
 ·rename_i f vf vc g
  simp only [Bool.and_eq_true, beq_iff_eq] at h
  obtain ⟨⟨rfl, h1⟩, h2⟩ := h
  exact .clo f vf vc [] [] (by simpa using h1) (by simpa using h2) (fun j c hj => by simp at hj) (fun j c hj => by simp at hj)
 ·simp at h
theorem constCs0_spec : ∀ (vs : List Value) (cs : List AV), constA.constCs0 vs cs = true →
  vs.length = cs.length ∧ ∀ (j : Nat) (c : AV), cs[j]? = some c → c.isCell = true ∧ Rep0 C w (vs[j]?.getD undef) c
 | [], [], _ => ⟨rfl, fun j c h => by simp at h⟩
 | [], _ :: _, h => by simp [constA.constCs0] at h
 | _ :: _, [], h => by simp [constA.constCs0] at h
 | v :: vs, a :: cs, h => by
  simp only [constA.constCs0, Bool.and_eq_true] at h
  obtain ⟨h1, h2⟩ := h
  obtain ⟨ih1, ih2⟩ := constCs0_spec vs cs h2
  refine ⟨by simp [ih1], fun j c hj => ?_⟩
  cases j with
  | succ j => simpa using ih2 j c (by simpa using hj)
  | zero =>
   simp only [List.getElem?_cons_zero, Option.some.injEq] at hj
   subst hj
   simp only [List.getElem?_cons_zero, Option.getD_some]
   split at h1
   ·rename_i n k; have : n = k := by simpa using h1
    subst this; exact ⟨rfl, .int n⟩
   ·rename_i b c; have : b = c := by simpa using h1
    subst this; exact ⟨rfl, .bool b⟩
   ·exact ⟨rfl, .sl0 _ _ _⟩
   ·exact ⟨rfl, .full _ none _ _ (.sl0 _ _ _) rfl⟩
   ·exact ⟨rfl, .und _ rfl⟩
   ·exact ⟨rfl, .und _ rfl⟩
   ·exact ⟨rfl, .und _ rfl⟩
   ·rename_i n b; have : n = (b.toNat : Int) := by simpa using h1
    subst this; exact ⟨rfl, .un b⟩
   ·simp at h1
theorem constA_rep {v : Value} {av : AV} (h : constA v av = true) : Rep C w m tk v av := by
 unfold constA at h
 split at h
 ·rename_i vs cs
  obtain ⟨h1, h2⟩ := constCs0_spec (C := C) (w := w) _ _ h
  refine .agg vs cs (by simpa using h1) (fun j c hj => (h2 j c hj).1) fun j c hj => ?_
  have := (h2 j c hj).2
  simpa using this
 ·exact constC_rep h
theorem opd_rep (h : Rel N C0 w0 σ a w C m tk own) {x : Operand} {y : VO} (hx : opd x y = true) : Rep C w m tk (a.eval x) (ev σ y) := by
 unfold opd at hx
 split at hx
 ·rename_i n k; have : n = k := by simpa using hx
  subst this
  have := h.slots n
  simpa [Act.eval, ev] using this
 ·exact constA_rep hx
 ·rename_i f g; have : f = g := by simpa using hx
  subst this
  exact .clo f #[] #[] [] [] rfl rfl (fun j c hj => by simp at hj) (fun j c hj => by simp at hj)
 ·rename_i g sz cs
  simp only [Bool.and_eq_true, beq_iff_eq] at hx
  obtain ⟨rfl, hg⟩ := hx
  have hcell : ∀ j : Nat, j < cs.length → ∃ n : Int, cs[j]? = some (.int n) ∧ C g j ∧ w.cell? ⟨g, j, none⟩ = some (.int .i64 n) := fun j hj => by
   have h1 := List.all_eq_true.1 hg j (List.mem_range.2 hj)
   split at h1
   ·rename_i n hn
    have h2 := h.gfw.2 (g, j, .i64, n) (List.contains_iff_mem.1 h1)
    exact ⟨n, hn, h2.1, h2.2⟩
   ·cases h1
  refine Rep0.ref g 0 cs.length 0 0 0 [.agg cs] (fun _ j => match cs[j]? with | some (.int n) => .int .i64 n | _ => undef) (by simp) ?_ ?_ ?_ ?_ ?_ ?_
  ·intro i e hi
   cases i with
   | zero => simp at hi; subst hi; rfl
   | succ i => simp at hi
  ·intro i e hi
   cases i with
   | zero => simp at hi; subst hi; rfl
   | succ i => simp at hi
  ·intro i j hi hj
   have : i = 0 := by simpa using hi
   subst this
   obtain ⟨n, h1, h2, h3⟩ := hcell j hj
   simpa using h2
  ·intro i j hi hj
   have : i = 0 := by simpa using hi
   subst this
   obtain ⟨n, h1, h2, h3⟩ := hcell j hj
   simp only [h1]
   simpa using h3
  ·intro i e hi j c hj
   cases i with
   | zero =>
    simp at hi
    subst hi
    have hj' : cs[j]? = some c := hj
    obtain ⟨n, h1, _⟩ := hcell j (List.getElem?_eq_some_iff.1 hj').1
    rw [hj'] at h1
    cases h1
    rfl
   | succ i => simp at hi
  ·intro i e hi j c hj
   cases i with
   | zero =>
    simp at hi
    subst hi
    have hj' : cs[j]? = some c := hj
    obtain ⟨n, h1, _⟩ := hcell j (List.getElem?_eq_some_iff.1 hj').1
    simp only [h1]
    rw [hj'] at h1
    cases h1
    exact .int n
   | succ i => simp at hi
 ·simp at hx
def Ex1 (P : Program) (o : Oper) (a : Act) (w : World) (v : Value) (w' : World) : Prop :=
 (execOp a.eval o).run P w = .ok (.value v) w' ∨ ((execOp a.eval o).run P w = .ok .skip w' ∧ v = undef)
theorem rep_int {v : Value} {n : Int} (h : Rep C w m tk v (.int n)) : v = .int .i64 n := by cases h; rfl
theorem rep_bool {v : Value} {b : Bool} (h : Rep C w m tk v (.bool b)) : v = .bool b := by cases h; rfl
theorem isInt_spec {av : AV} (h : av.isInt) : ∃ n, av = .int n := by cases av <;> first | exact ⟨_, rfl⟩ | exact h.elim
theorem isBool_spec {av : AV} (h : av.isBool) : ∃ n, av = .bool n := by cases av <;> first | exact ⟨_, rfl⟩ | exact h.elim
theorem rep_sl {v : Value} {sz : Nat} {es : List AV} {md : VM} (h : Rep C w m tk v (.sl sz es md)) : Rep0 C w v (.sl sz es .sh) := by
 cases md with
 | sh => exact h
 | full => exact h.1
 | own k => exact h.1
theorem rep0_sl {v : Value} {sz : Nat} {es : List AV} (h : Rep0 C w v (.sl sz es .sh)) : ∃ b cap, v = .slice b es.length cap ∧ (∃ x, es ≠ [] → b = some x) := by
 cases h with
 | sl0 a cap sz => exact ⟨a, cap, rfl, default, fun h => absurd rfl h⟩
 | sl blk o n cap sz es f hn hcap hsz hk hc hv hka hr => subst hn; exact ⟨_, cap, rfl, _, fun _ => rfl⟩
end
end Go.V

set_option linter.unusedSimpArgs false
set_option linter.unusedVariables false
set_option linter.unnecessarySimpa false
namespace Go.V
open Go Go.RowKit
section
variable {P : Program}
variable {N : Cfg} {C0 : Nat → Nat → Prop} {w0 : World} {σ : AS} {a : Act} {w : World} {C : Nat → Nat → Prop} {m : Nat → Option Nat} {tk : Nat → Option TK} {own : Nat → Option (Nat ⊕ Nat)}
def Quiet (P : Program) (o : Oper) (a : Act) (w : World) (C : Nat → Nat → Prop) (m : Nat → Option Nat) (tk : Nat → Option TK) (av : AV) : Prop :=
 ∃ v, Ex1 P o a w v w ∧ Rep C w m tk v av
theorem quiet_of {o : Oper} {v : Value} {av : AV} (hr : (execOp a.eval o).run P w = .ok (.value v) w) (h : Rep C w m tk v av) : Quiet P o a w C m tk av := ⟨v, .inl hr, h⟩
theorem q_mov {o : Oper} (h : Rel N C0 w0 σ a w C m tk own) {y : VO} (hm : mop P o.op (.mov y) = true) : Quiet P o a w C m tk (vval (.mov y) σ) := by
 cases ho : o.op <;> rw [ho] at hm <;> first | (simp [mop] at hm; done) | skip
 all_goals (rename_i x; simp only [mop] at hm; exact quiet_of (v := a.eval x) (by simp [execOp, ho]) (opd_rep h hm))
theorem q_pick {o : Oper} (h : Rel N C0 w0 σ a w C m tk own) {c x y : VO} (hm : mop P o.op (.pick c x y) = true) (hc : vcond (.pick c x y) σ) : Quiet P o a w C m tk (vval (.pick c x y) σ) := by
 cases ho : o.op <;> rw [ho] at hm <;> first | (simp [mop] at hm; done) | skip
 rename_i c0 a0 b0
 simp only [mop, Bool.and_eq_true] at hm
 obtain ⟨⟨h1, h2⟩, h3⟩ := hm
 obtain ⟨b, hb⟩ := isBool_spec hc
 have r1 := opd_rep h h1
 rw [hb] at r1
 have e1 := rep_bool r1
 have r2 := opd_rep h h2
 have r3 := opd_rep h h3
 refine quiet_of (v := if b then a.eval a0 else a.eval b0) (by simp [execOp, ho, e1, asBool]) ?_
 simp only [vval, hb, AV.toBool]
 cases b
 ·exact r3
 ·exact r2
theorem q_not {o : Oper} (h : Rel N C0 w0 σ a w C m tk own) {x : VO} (hm : mop P o.op (.not x) = true) (hc : vcond (.not x) σ) : Quiet P o a w C m tk (vval (.not x) σ) := by
 cases ho : o.op <;> rw [ho] at hm <;> first | (simp [mop] at hm; done) | skip
 rename_i u t x0
 cases u <;> first | (simp [mop] at hm; done) | skip
 simp only [mop] at hm
 obtain ⟨b, hb⟩ := isBool_spec hc
 have r1 := opd_rep h hm
 rw [hb] at r1
 have e1 := rep_bool r1
 refine quiet_of (v := .bool (!b)) (by simp [execOp, ho, e1, Op.unary]) ?_
 simp only [vval, hb, AV.toBool]
 exact .bool _
theorem q_neg {o : Oper} (h : Rel N C0 w0 σ a w C m tk own) {x : VO} (hm : mop P o.op (.neg x) = true) (hc : vcond (.neg x) σ) : Quiet P o a w C m tk (vval (.neg x) σ) := by
 cases ho : o.op <;> rw [ho] at hm <;> first | (simp [mop] at hm; done) | skip
 rename_i u t x0
 cases u <;> first | (simp [mop] at hm; done) | skip
 simp only [mop] at hm
 obtain ⟨b, hb⟩ := isInt_spec hc
 have r1 := opd_rep h hm
 rw [hb] at r1
 have e1 := rep_int r1
 refine quiet_of (v := .int .i64 (w64 (0 - b))) (by simp [execOp, ho, e1, Op.unary, Op.intArith, w64]) ?_
 simp only [vval, hb, AV.toInt]
 exact .int _
theorem run_equalIn_bool {d : Nat} {t : TypeId} (h : P.underlying t = some .bool) (b c : Bool) (w : World) : (Op.equalIn (d + 1) t (.bool b) (.bool c)).run P w = .ok (b == c) w := by
 simp [Op.equalIn, run_underlying h]
theorem run_equal_bool {t : TypeId} (h : P.underlying t = some .bool) (b c : Bool) (w : World) : (Op.equal t (.bool b) (.bool c)).run P w = .ok (b == c) w := run_equalIn_bool (d := 9999) h b c w
theorem run_eql_bool {t : TypeId} (h : P.underlying t = some .bool) (b c : Bool) (w : World) : (binOp .eql t (.bool b) (.bool c)).run P w = .ok (.bool (b == c)) w := by
 simp only [binOp, Sem.run_bind, run_equal_bool h, Result.andThen_ok, Sem.run_pure]
theorem run_neq_bool {t : TypeId} (h : P.underlying t = some .bool) (b c : Bool) (w : World) : (binOp .neq t (.bool b) (.bool c)).run P w = .ok (.bool (!(b == c))) w := by
 simp only [binOp, Sem.run_bind, run_equal_bool h, Result.andThen_ok, Sem.run_pure]
theorem run_eqFields (xs ys : Array Value) (d : Nat) : ∀ (fs : List Field) (i : Nat) (as bs : List AV), intFields P fs i = true → as.length = fs.length → bs.length = fs.length →
  (∀ (j : Nat) (c : AV), as[j]? = some c → ∃ n, c = .int n ∧ xs[i + j]? = some (.int .i64 n)) → (∀ (j : Nat) (c : AV), bs[j]? = some c → ∃ n, c = .int n ∧ ys[i + j]? = some (.int .i64 n)) →
  (Op.eqFields (d + 1) xs ys fs).run P w = .ok (sameCells as bs) w
 | [], _, [], [], _, _, _, _, _ => by simp [Op.eqFields, sameCells]
 | [], _, _ :: _, _, _, h, _, _, _ => by simp at h
 | [], _, [], _ :: _, _, _, h, _, _ => by simp at h
 | _ :: _, _, [], _, _, h, _, _, _ => by simp at h
 | _ :: _, _, _ :: _, [], _, _, h, _, _ => by simp at h
 | f :: fs, i, a :: as, b :: bs, hf, h1, h2, hx, hy => by
  simp only [intFields, Bool.and_eq_true, beq_iff_eq, bne_iff_ne] at hf
  obtain ⟨⟨⟨⟨hn, ho⟩, ha⟩, hu⟩, hr⟩ := hf
  obtain ⟨n, rfl, hxn⟩ := hx 0 a rfl
  obtain ⟨m, rfl, hym⟩ := hy 0 b rfl
  obtain ⟨k, hk⟩ : ∃ k, P.underlying f.type = some (.int k) := by
   cases hq : P.underlying f.type with
   | none => simp [hq] at hu
   | some d => cases d <;> simp [hq] at hu; exact ⟨_, rfl⟩
  have ih := run_eqFields xs ys d fs (i + 1) as bs hr (by simpa using h1) (by simpa using h2)
   (fun j c hj => by have := hx (j + 1) c (by simpa using hj); rw [show i + 1 + j = i + (j + 1) by omega]; exact this)
   (fun j c hj => by have := hy (j + 1) c (by simpa using hj); rw [show i + 1 + j = i + (j + 1) by omega]; exact this)
  have p1 : (part f.type xs f.offset).run P w = .ok (.int .i64 n) w := by
   rw [Nat.add_zero] at hxn
   simp [part, run_aggOf ha, ho, hxn]
  have p2 : (part f.type ys f.offset).run P w = .ok (.int .i64 m) w := by
   rw [Nat.add_zero] at hym
   simp [part, run_aggOf ha, ho, hym]
  simp only [Op.eqFields, sameCells]
  rw [if_pos hn]
  simp only [Sem.run_bind, p1, p2, Result.andThen_ok, run_equalIn_int w d f.type .i64 k n m hk, Sem.run_ite, ih]
  cases hnm : n == m
  ·simp
  ·simp
theorem rep_aggInts {v : Value} {cs : List AV} (h : Rep C w m tk v (.agg cs)) (hi : ∀ x ∈ cs, x.isInt) : ∃ xs, v = .agg xs ∧ ∀ (j : Nat) (c : AV), cs[j]? = some c → ∃ n, c = .int n ∧ xs[0 + j]? = some (.int .i64 n) := by
 cases h with
 | agg vs cs hn hk hr =>
  refine ⟨vs, rfl, fun j c hj => ?_⟩
  obtain ⟨n, rfl⟩ := isInt_spec (hi c (List.mem_of_getElem? hj))
  have := hr j _ hj
  have hlt := (List.getElem?_eq_some_iff.1 hj).1
  have hlt2 : j < vs.size := by omega
  simp only [Array.getElem?_eq_getElem hlt2, Option.getD_some] at this
  refine ⟨n, rfl, ?_⟩
  rw [Nat.zero_add, Array.getElem?_eq_getElem hlt2, rep_int (m := m) (tk := tk) this.toRep]
theorem structInts_spec {t : TypeId} {n : Nat} (h : structInts P t n = true) : P.underlying t = some (.struct (P.fieldsOf t)) ∧ intFields P (P.fieldsOf t).toList 0 = true ∧ (P.fieldsOf t).toList.length = n ∧ P.stoodInHeld t = false ∧ P.eqGuardType P.depth t = false := by
 simp only [structInts, Bool.and_eq_true, Bool.not_eq_true'] at h
 obtain ⟨⟨h1, h2⟩, h3⟩ := h
 cases hq : P.underlying t with
 | none => simp [hq] at h1
 | some d =>
  cases d <;> simp only [hq, Bool.false_eq_true] at h1
  rename_i fs
  simp only [Bool.and_eq_true, beq_iff_eq] at h1
  have : P.fieldsOf t = fs := by simp [Program.fieldsOf, hq]
  rw [this]
  exact ⟨rfl, h1.1, h1.2, h2, h3⟩
theorem rep_un {v : Value} {b : BitVec 64} (h : Rep C w m tk v (.un b)) : v = .int .u64 (b.toNat : Int) := by
 have h' : Rep0 C w v (.un b) := h
 cases h'
 rfl
theorem u64_wrap (b : BitVec 64) : IntKind.u64.wrap (b.toNat : Int) = (b.toNat : Int) := by
 have := b.isLt
 simp only [IntKind.wrap, IntKind.bits, IntKind.signed, Bool.false_and, Bool.false_eq_true, if_false]
 exact Int.emod_eq_of_lt (by omega) (by omega)
theorem run_shr (u : BitVec 64) {b : Int} (h : 0 ≤ b) (t : TypeId) (w : World) : (binOp .shr t (.int .u64 (u.toNat : Int)) (.int .i64 b)).run P w = .ok (.int .u64 ((u >>> min b.toNat 64).toNat : Int)) w := by
 have hn : ¬ b < 0 := by omega
 simp only [binOp, Op.shift, if_neg hn, IntKind.bits, Sem.run_pure, BitVec.toNat_ushiftRight, Nat.shiftRight_eq_div_pow]
 congr 2
 generalize min b.toNat 64 = k
 rw [Int.fdiv_eq_ediv_of_nonneg _ (by exact Int.le_of_lt (Int.pow_pos (by omega)))]
 rw [Int.natCast_ediv, Int.natCast_pow]
 try rfl
theorem run_shl (u : BitVec 64) {b : Int} (h : 0 ≤ b) (t : TypeId) (w : World) : (binOp .shl t (.int .u64 (u.toNat : Int)) (.int .i64 b)).run P w = .ok (.int .u64 ((u <<< min b.toNat 64).toNat : Int)) w := by
 have hn : ¬ b < 0 := by omega
 simp only [binOp, Op.shift, if_neg hn, IntKind.bits, Sem.run_pure, BitVec.toNat_shiftLeft, Nat.shiftLeft_eq]
 generalize min b.toNat 64 = k
 have e : IntKind.u64.wrap ((u.toNat : Int) * 2 ^ k) = ((u.toNat * 2 ^ k % 2 ^ 64 : Nat) : Int) := by
  simp only [IntKind.wrap, IntKind.bits, IntKind.signed, Bool.false_and, Bool.false_eq_true, if_false]
  rw [Int.natCast_emod, Int.natCast_mul, Int.natCast_pow]
  try rfl
 rw [e]
theorem run_band (u v : BitVec 64) (t : TypeId) (w : World) : (binOp .and t (.int .u64 (u.toNat : Int)) (.int .u64 (v.toNat : Int))).run P w = .ok (.int .u64 ((u &&& v).toNat : Int)) w := by
 have e : ∀ x : BitVec 64, BitVec.ofInt IntKind.u64.bits (x.toNat : Int) = x := fun x => by show BitVec.ofInt 64 _ = _; rw [BitVec.ofInt_natCast]; simp
 simp only [binOp, Op.intBits, e]
 show (pure _ : Sem Value).run P w = _
 rw [Sem.run_pure]
 congr 2
 exact u64_wrap (u &&& v)
theorem run_bor (u v : BitVec 64) (t : TypeId) (w : World) : (binOp .or t (.int .u64 (u.toNat : Int)) (.int .u64 (v.toNat : Int))).run P w = .ok (.int .u64 ((u ||| v).toNat : Int)) w := by
 have e : ∀ x : BitVec 64, BitVec.ofInt IntKind.u64.bits (x.toNat : Int) = x := fun x => by show BitVec.ofInt 64 _ = _; rw [BitVec.ofInt_natCast]; simp
 simp only [binOp, Op.intBits, e]
 show (pure _ : Sem Value).run P w = _
 rw [Sem.run_pure]
 congr 2
 exact u64_wrap (u ||| v)
theorem run_subu (u v : BitVec 64) (t : TypeId) (w : World) : (binOp .sub t (.int .u64 (u.toNat : Int)) (.int .u64 (v.toNat : Int))).run P w = .ok (.int .u64 ((u - v).toNat : Int)) w := by
 have e : IntKind.u64.wrap ((u.toNat : Int) - (v.toNat : Int)) = ((u - v).toNat : Int) := by
  have h1 := u.isLt
  have h2 := v.isLt
  rw [BitVec.toNat_sub]
  simp only [IntKind.wrap, IntKind.bits, IntKind.signed, Bool.false_and, Bool.false_eq_true, if_false]
  omega
 simp [binOp, Op.intArith, e]
theorem un_beq (u v : BitVec 64) : ((u.toNat : Int) == (v.toNat : Int)) = decide (u = v) := by
 by_cases h : u = v
 ·subst h; simp
 ·have : ¬ (u.toNat : Int) = (v.toNat : Int) := fun e => h (BitVec.eq_of_toNat_eq (by omega))
  simp [h, this]
theorem q_bin {o : Oper} (h : Rel N C0 w0 σ a w C m tk own) {k : BK} {x y : VO} (hm : mop P o.op (.bin k x y) = true) (hc : vcond (.bin k x y) σ) : Quiet P o a w C m tk (vval (.bin k x y) σ) := by
 cases ho : o.op <;> rw [ho] at hm <;> first | (simp [mop] at hm; done) | skip
 rename_i op t x0 y0 t'
 simp only [mop, Bool.and_eq_true] at hm
 obtain ⟨⟨hk, h1⟩, h2⟩ := hm
 have r1 := opd_rep h h1
 have r2 := opd_rep h h2
 simp only [vcond] at hc
 simp only [vval]
 generalize ev σ x = u at *
 generalize ev σ y = v at *
 unfold BK.cond at hc
 split at hc <;> first | exact hc.elim | skip
 case h_5 =>
  rename_i n xs ys
  simp only [bk, Bool.and_eq_true, beq_iff_eq] at hk
  obtain ⟨rfl, hs⟩ := hk
  obtain ⟨s1, s2, s3, s4, s5⟩ := structInts_spec hs
  obtain ⟨c1, c2, c3, c4⟩ := hc
  obtain ⟨vs, ev1, q1⟩ := rep_aggInts r1 c3
  obtain ⟨us, ev2, q2⟩ := rep_aggInts r2 c4
  have he := run_eqFields (P := P) (w := w) vs us 9998 _ 0 xs ys s2 (by omega) (by omega) q1 q2
  refine quiet_of (by simp only [execOp, ho, ev1, ev2]; simp [run_eqGuard_agg w .eql t x0 y0 vs us s5, run_eql_struct, run_equalIn_agg w 9999 t vs us s1 s4, he]; rfl) ?_
  exact .bool _
 case h_6 =>
  rename_i n xs ys
  simp only [bk, Bool.and_eq_true, beq_iff_eq] at hk
  obtain ⟨rfl, hs⟩ := hk
  obtain ⟨s1, s2, s3, s4, s5⟩ := structInts_spec hs
  obtain ⟨c1, c2, c3, c4⟩ := hc
  obtain ⟨vs, ev1, q1⟩ := rep_aggInts r1 c3
  obtain ⟨us, ev2, q2⟩ := rep_aggInts r2 c4
  have he := run_eqFields (P := P) (w := w) vs us 9998 _ 0 xs ys s2 (by omega) (by omega) q1 q2
  refine quiet_of (by simp only [execOp, ho, ev1, ev2]; simp [run_eqGuard_agg w .neq t x0 y0 vs us s5, run_neq_struct, run_equalIn_agg w 9999 t vs us s1 s4, he]; rfl) ?_
  exact .bool _
 case h_3 =>
  simp only [bk, Bool.and_eq_true, beq_iff_eq] at hk
  obtain ⟨rfl, hu⟩ := hk
  have hu' : P.underlying t = some .bool := by
   cases hq : P.underlying t with
   | none => simp [hq] at hu
   | some d => cases d <;> simp [hq] at hu; rfl
  refine quiet_of (by simp only [execOp, ho, rep_bool r1, rep_bool r2]; simp [eqGuard, run_eql_bool hu']; rfl) ?_
  exact .bool _
 case h_4 =>
  simp only [bk, Bool.and_eq_true, beq_iff_eq] at hk
  obtain ⟨rfl, hu⟩ := hk
  have hu' : P.underlying t = some .bool := by
   cases hq : P.underlying t with
   | none => simp [hq] at hu
   | some d => cases d <;> simp [hq] at hu; rfl
  refine quiet_of (by simp only [execOp, ho, rep_bool r1, rep_bool r2]; simp [eqGuard, run_neq_bool hu']; rfl) ?_
  exact .bool _
 case h_16 =>
  rename_i u b
  simp only [bk, beq_iff_eq] at hk
  subst hk
  refine quiet_of (by simp only [execOp, ho, rep_un r1, rep_int r2]; simp only [Sem.run_bind, eqGuard_shr, Result.andThen_ok, run_shr u hc]; rfl) ?_
  exact Rep0.un _
 case h_17 =>
  rename_i u b
  simp only [bk, beq_iff_eq] at hk
  subst hk
  refine quiet_of (by simp only [execOp, ho, rep_un r1, rep_int r2]; simp only [Sem.run_bind, eqGuard_shl, Result.andThen_ok, run_shl u hc]; rfl) ?_
  exact Rep0.un _
 case h_18 =>
  rename_i u b
  simp only [bk, beq_iff_eq] at hk
  subst hk
  refine quiet_of (by simp only [execOp, ho, rep_un r1, rep_un r2]; simp only [Sem.run_bind, eqGuard_and, Result.andThen_ok, run_band]; rfl) ?_
  exact Rep0.un _
 case h_19 =>
  rename_i u b
  simp only [bk, beq_iff_eq] at hk
  subst hk
  refine quiet_of (by simp only [execOp, ho, rep_un r1, rep_un r2]; simp only [Sem.run_bind, eqGuard_or, Result.andThen_ok, run_bor]; rfl) ?_
  exact Rep0.un _
 case h_20 =>
  rename_i u b
  simp only [bk, beq_iff_eq] at hk
  subst hk
  refine quiet_of (by simp only [execOp, ho, rep_un r1, rep_un r2]; simp [eqGuard, binOp, Op.intCmp, un_beq]; try rfl) ?_
  exact Rep0.bool _
 case h_21 =>
  rename_i u b
  simp only [bk, beq_iff_eq] at hk
  subst hk
  refine quiet_of (by simp only [execOp, ho, rep_un r1, rep_un r2]; simp only [Sem.run_bind, eqGuard_sub, Result.andThen_ok, run_subu]; rfl) ?_
  exact Rep0.un _
 case h_22 =>
  rename_i u b
  simp only [bk, beq_iff_eq] at hk
  subst hk
  refine quiet_of (by simp only [execOp, ho, rep_un r1, rep_un r2]; simp [eqGuard, binOp, Op.intCmp, bne, un_beq]; try rfl) ?_
  exact Rep0.bool _
 all_goals
  simp only [bk, beq_iff_eq] at hk
  subst hk
  refine quiet_of (by simp only [execOp, ho, rep_int r1, rep_int r2]; simp [eqGuard, binOp, Op.intArith, Op.intDiv, Op.intCmp, hc]; try rfl) ?_
  first | exact .bool _ | exact .int _
theorem q_ext {o : Oper} (h : Rel N C0 w0 σ a w C m tk own) {x : VO} {i : Nat} (hm : mop P o.op (.ext x i) = true) (hc : vcond (.ext x i) σ) : Quiet P o a w C m tk (vval (.ext x i) σ) := by
 cases ho : o.op <;> rw [ho] at hm <;> first | (simp [mop] at hm; done) | skip
 rename_i x0 i0
 simp only [mop, Bool.and_eq_true, beq_iff_eq] at hm
 obtain ⟨h1, rfl⟩ := hm
 have r1 := opd_rep h h1
 simp only [vcond] at hc
 simp only [vval]
 generalize ev σ x = u at *
 cases u <;> first | exact hc.elim | skip
 ·rename_i vs
  have r1' : Rep0 C w (a.eval x0) (.tup vs) := r1
  cases hr : a.eval x0 with
  | tuple us =>
   rw [hr] at r1'
   cases r1' with
   | tup us vs hn hh =>
    have hlt : i0 < us.size := by omega
    have hx := hh i0 vs[i0] (by simp [hc])
    refine quiet_of (v := us[i0]) (by simp [execOp, ho, hr, Instr.extract, hlt]) ?_
    simp only [hlt, getElem?_pos, Option.getD_some] at hx
    simp only [hc, getElem?_pos, Option.getD_some]
    exact hx.toRep
  | _ => rw [hr] at r1'; cases r1'
 ·rename_i vs
  obtain ⟨us, hus, hn, hh⟩ := r1
  have hlt : i0 < us.size := by rw [hn]; exact hc
  have hx := hh i0 vs[i0] (by simp [hc])
  refine quiet_of (v := us[i0]) (by simp [execOp, ho, hus, Instr.extract, hlt]) ?_
  simp only [hlt, getElem?_pos, Option.getD_some] at hx
  simp only [hc, getElem?_pos, Option.getD_some]
  exact repT_toRep hx
theorem q_len {o : Oper} (h : Rel N C0 w0 σ a w C m tk own) {x : VO} (hm : mop P o.op (.len x) = true) (hc : vcond (.len x) σ) : Quiet P o a w C m tk (vval (.len x) σ) := by
 cases ho : o.op <;> rw [ho] at hm <;> first | (simp [mop] at hm; done) | skip
 rename_i c
 obtain ⟨callee, args, argTypes⟩ := c
 simp only [mop, Bool.and_eq_true] at hm
 obtain ⟨⟨h0, h1⟩, h2⟩ := hm
 split at h0 <;> first | (simp at h0; done) | skip
 obtain ⟨args⟩ := args
 obtain ⟨ats⟩ := argTypes
 simp only at h1 h2
 split at h2 <;> first | (simp at h2; done) | skip
 rename_i t
 cases args with
 | nil => simp [opds] at h1
 | cons x0 r =>
  cases r with
  | cons _ _ => simp [opds] at h1
  | nil =>
   simp only [opds, Bool.and_true] at h1
   have r1 := opd_rep h h1
   obtain ⟨e, he⟩ := Option.isSome_iff_exists.1 h2
   have hu := elOf_spec he
   simp only [vcond] at hc
   simp only [vval]
   generalize ev σ x = u at *
   cases u <;> first | exact hc.elim | skip
   ·rename_i sz es md
    obtain ⟨b, cap, hb, _⟩ := rep0_sl (rep_sl r1)
    refine quiet_of (v := .int .i64 es.length) (by simp [execOp, ho, resolve, invoke, builtin, Builtin.len_, hb, run_underlying hu, goInt]) (.int _)
   ·obtain ⟨blk, cap, _, _, hb⟩ := r1
    refine quiet_of (v := .int .i64 _) (by simp [execOp, ho, resolve, invoke, builtin, Builtin.len_, hb, run_underlying hu, goInt]) (.int _)
   ·obtain ⟨blk, _, hb⟩ := r1
    rcases hb with ⟨rfl, _, hb⟩ | ⟨_, cap, _, hb, _⟩
    ·refine quiet_of (v := .int .i64 0) (by simp [execOp, ho, resolve, invoke, builtin, Builtin.len_, hb, run_underlying hu, goInt]) (.int _)
    ·refine quiet_of (v := .int .i64 _) (by simp [execOp, ho, resolve, invoke, builtin, Builtin.len_, hb, run_underlying hu, goInt]) (.int _)
theorem opds_two {l : List Operand} {x y : VO} (h : opds l [x, y] = true) : ∃ x0 y0, l = [x0, y0] ∧ opd x0 x = true ∧ opd y0 y = true := by
 cases l with
 | nil => simp [opds] at h
 | cons a r =>
  cases r with
  | nil => simp [opds] at h
  | cons b r =>
   cases r with
   | nil => simp only [opds, Bool.and_true, Bool.and_eq_true] at h; exact ⟨a, b, rfl, h.1, h.2⟩
   | cons _ _ => simp [opds] at h
theorem q_min {o : Oper} (h : Rel N C0 w0 σ a w C m tk own) {x y : VO} (hm : mop P o.op (.min x y) = true) (hc : vcond (.min x y) σ) : Quiet P o a w C m tk (vval (.min x y) σ) := by
 cases ho : o.op <;> rw [ho] at hm <;> first | (simp [mop] at hm; done) | skip
 rename_i c
 obtain ⟨callee, args, argTypes⟩ := c
 simp only [mop, Bool.and_eq_true] at hm
 obtain ⟨h0, h1⟩ := hm
 split at h0 <;> first | (simp at h0; done) | skip
 obtain ⟨args⟩ := args
 simp only at h1
 obtain ⟨n1, e1⟩ := isInt_spec hc.1
 obtain ⟨n2, e2⟩ := isInt_spec hc.2
 obtain ⟨x0, y0, rfl, h1, h2⟩ := opds_two h1
 have r1 := opd_rep h h1
 have r2 := opd_rep h h2
 rw [e1] at r1
 rw [e2] at r2
 refine quiet_of (by simp [execOp, ho, resolve, invoke, builtin, Builtin.min_, rep_int r1, rep_int r2, Builtin.min2]; rfl) ?_
 simp only [vval, e1, e2, AV.toInt]
 exact .int _
theorem q_max {o : Oper} (h : Rel N C0 w0 σ a w C m tk own) {x y : VO} (hm : mop P o.op (.max x y) = true) (hc : vcond (.max x y) σ) : Quiet P o a w C m tk (vval (.max x y) σ) := by
 cases ho : o.op <;> rw [ho] at hm <;> first | (simp [mop] at hm; done) | skip
 rename_i c
 obtain ⟨callee, args, argTypes⟩ := c
 simp only [mop, Bool.and_eq_true] at hm
 obtain ⟨h0, h1⟩ := hm
 split at h0 <;> first | (simp at h0; done) | skip
 obtain ⟨args⟩ := args
 simp only at h1
 obtain ⟨n1, e1⟩ := isInt_spec hc.1
 obtain ⟨n2, e2⟩ := isInt_spec hc.2
 obtain ⟨x0, y0, rfl, h1, h2⟩ := opds_two h1
 have r1 := opd_rep h h1
 have r2 := opd_rep h h2
 rw [e1] at r1
 rw [e2] at r2
 refine quiet_of (by simp [execOp, ho, resolve, invoke, builtin, Builtin.max_, rep_int r1, rep_int r2, Builtin.max2]; rfl) ?_
 simp only [vval, e1, e2, AV.toInt]
 exact .int _
theorem opds_three {l : List Operand} {x y z : VO} (h : opds l [x, y, z] = true) : ∃ x0 y0 z0, l = [x0, y0, z0] ∧ opd x0 x = true ∧ opd y0 y = true ∧ opd z0 z = true := by
 match l, h with
 | [a, b, c], h =>
  simp only [opds, Bool.and_true, Bool.and_eq_true] at h
  exact ⟨a, b, c, rfl, h.1, h.2.1, h.2.2⟩
 | [], h => simp [opds] at h
 | [_], h => simp [opds] at h
 | [_, _], h => simp [opds] at h
 | _ :: _ :: _ :: _ :: _, h => simp [opds] at h
theorem q_max3 {o : Oper} (h : Rel N C0 w0 σ a w C m tk own) {x y z : VO} (hm : mop P o.op (.max3 x y z) = true) (hc : vcond (.max3 x y z) σ) : Quiet P o a w C m tk (vval (.max3 x y z) σ) := by
 cases ho : o.op <;> rw [ho] at hm <;> first | (simp [mop] at hm; done) | skip
 rename_i c
 obtain ⟨callee, args, argTypes⟩ := c
 simp only [mop, Bool.and_eq_true] at hm
 obtain ⟨h0, h1⟩ := hm
 split at h0 <;> first | (simp at h0; done) | skip
 obtain ⟨args⟩ := args
 simp only at h1
 obtain ⟨n1, e1⟩ := isInt_spec hc.1
 obtain ⟨n2, e2⟩ := isInt_spec hc.2.1
 obtain ⟨n3, e3⟩ := isInt_spec hc.2.2
 obtain ⟨x0, y0, z0, rfl, h1, h2, h3⟩ := opds_three h1
 have r1 := opd_rep h h1
 have r2 := opd_rep h h2
 have r3 := opd_rep h h3
 rw [e1] at r1
 rw [e2] at r2
 rw [e3] at r3
 refine quiet_of (v := .int .i64 (imax (imax n1 n2) n3)) (by simp [execOp, ho, resolve, invoke, builtin, Builtin.max_, rep_int r1, rep_int r2, rep_int r3, Builtin.max2, imax]; repeat' split) ?_
 simp only [vval, e1, e2, e3, AV.toInt]
 exact .int _
theorem run_equalIn_nils {d : Nat} {t et : TypeId} (h : P.underlying t = some (.slice et)) (b : Addr) (n c : Nat) (w : World) : (Op.equalIn (d + 1) t (.slice (some b) n c) (.slice none 0 0)).run P w = .ok false w := by
 simp [Op.equalIn, run_underlying h]
theorem run_equal_nils {t et : TypeId} (h : P.underlying t = some (.slice et)) (b : Addr) (n c : Nat) (w : World) : (Op.equal t (.slice (some b) n c) (.slice none 0 0)).run P w = .ok false w := run_equalIn_nils (d := 9999) h b n c w
theorem run_eql_nils {t et : TypeId} (h : P.underlying t = some (.slice et)) (b : Addr) (n c : Nat) (w : World) : (binOp .eql t (.slice (some b) n c) (.slice none 0 0)).run P w = .ok (.bool false) w := by
 simp only [binOp, Sem.run_bind, run_equal_nils h, Result.andThen_ok, Sem.run_pure]
theorem run_cvu {P : Program} (w : World) (s t : TypeId) (k : IntKind) (n : Int) (hs : (P.underlying s).isSome = true) (hd : P.underlying t = some (.int .u64)) : (convert s t (.int k n)).run P w = .ok (.int .u64 (IntKind.u64.wrap n)) w := by
 obtain ⟨d, hd'⟩ := Option.isSome_iff_exists.mp hs
 simp [convert, run_underlying hd', run_underlying hd, Conv.intToInt]
theorem q_cvu {o : Oper} (h : Rel N C0 w0 σ a w C m tk own) {x : VO} (hm : mop P o.op (.cvu x) = true) (hc : vcond (.cvu x) σ) : Quiet P o a w C m tk (vval (.cvu x) σ) := by
 cases ho : o.op <;> rw [ho] at hm <;> first | (simp [mop] at hm; done) | skip
 rename_i s t x0
 simp only [mop, Bool.and_eq_true] at hm
 obtain ⟨⟨h1, hs⟩, ht⟩ := hm
 have hd : P.underlying t = some (.int .u64) := by
  split at ht
  ·assumption
  ·cases ht
 have r1 := opd_rep h h1
 simp only [vcond] at hc
 cases hx : ev σ x with
 | int n =>
  rw [hx] at r1
  have e1 := rep_int r1
  refine quiet_of (v := .int .u64 (IntKind.u64.wrap n)) (by simp [execOp, ho, e1, run_cvu w s t .i64 n hs hd]) ?_
  simp only [vval, hx]
  have : IntKind.u64.wrap n = ((BitVec.ofInt 64 n).toNat : Int) := by
   simp [IntKind.wrap, IntKind.bits, IntKind.signed]
   omega
  rw [this]
  exact .un _
 | un b =>
  rw [hx] at r1
  have e1 := rep_un r1
  refine quiet_of (v := .int .u64 (IntKind.u64.wrap (b.toNat : Int))) (by simp [execOp, ho, e1, run_cvu w s t .u64 _ hs hd]) ?_
  simp only [vval, hx]
  rw [u64_wrap]
  exact .un _
 | _ => rw [hx] at hc; exact hc.elim
theorem q_nile {o : Oper} (h : Rel N C0 w0 σ a w C m tk own) {x : VO} (hm : mop P o.op (.nile x) = true) (hc : vcond (.nile x) σ) : Quiet P o a w C m tk (vval (.nile x) σ) := by
 cases ho : o.op <;> rw [ho] at hm <;> first | (simp [mop] at hm; done) | skip
 rename_i op t x0 y0 t'
 simp only [mop, Bool.and_eq_true, beq_iff_eq] at hm
 obtain ⟨⟨⟨rfl, h1⟩, hz⟩, hu⟩ := hm
 have hy : y0 = .const (.slice none 0 0) := by
  unfold isNilS at hz
  split at hz
  ·rfl
  ·cases hz
 subst hy
 have r1 := opd_rep h h1
 obtain ⟨et, hu'⟩ : ∃ et, P.underlying t = some (.slice et) := by
  cases hq : P.underlying t with
  | none => simp [hq] at hu
  | some d => cases d <;> simp [hq] at hu; exact ⟨_, rfl⟩
 simp only [vcond] at hc
 simp only [vval]
 generalize ev σ x = u at *
 split at hc <;> first | exact hc.elim | skip
 rename_i sz e es md
 have r2 : Rep0 C w (a.eval x0) (.sl sz (e :: es) .sh) := by
  cases md
  ·exact r1
  ·exact r1.1
  ·exact r1.1
 cases hr : a.eval x0 <;> rw [hr] at r2 <;> cases r2
 have hk : a.eval (.const (.slice none 0 0)) = .slice none 0 0 := rfl
 refine quiet_of (v := .bool false) (by simp only [execOp, ho, hr, hk]; simp [eqGuard, run_eql_nils hu']) ?_
 exact .bool _
theorem q_nilck {o : Oper} (h : Rel N C0 w0 σ a w C m tk own) {x : VO} (hm : mop P o.op (.nilck x) = true) (hc : vcond (.nilck x) σ) : Quiet P o a w C m tk (vval (.nilck x) σ) := by
 cases ho : o.op <;> rw [ho] at hm <;> first | (simp [mop] at hm; done) | skip
 rename_i x0
 simp only [mop] at hm
 have r1 := opd_rep h hm
 simp only [vcond] at hc
 simp only [vval]
 generalize ev σ x = u at *
 cases u <;> first | exact hc.elim | skip
 ·have r1' : Rep0 C w (a.eval x0) _ := r1
  refine quiet_of (v := a.eval x0) ?_ r1
  cases hr : a.eval x0 <;> rw [hr] at r1' <;> cases r1'
  simp [execOp, ho, hr]
 ·obtain ⟨blk, h1, h2⟩ := r1
  exact quiet_of (v := a.eval x0) (by simp [execOp, ho, h2]) ⟨blk, h1, h2⟩
 ·have r1' : Rep0 C w (a.eval x0) _ := r1
  refine quiet_of (v := a.eval x0) ?_ r1
  cases hr : a.eval x0 <;> rw [hr] at r1' <;> cases r1'
  simp [execOp, ho, hr]
theorem add_none (blk o n : Nat) : (⟨blk, o, none⟩ : Addr).add n = ⟨blk, o + n, none⟩ := by
 unfold Addr.add
 split
 ·rename_i h; subst h; rfl
 ·rfl
theorem q_fld {o : Oper} (h : Rel N C0 w0 σ a w C m tk own) {x : VO} {off : Nat} (hm : mop P o.op (.fld off x) = true) (hc : vcond (.fld off x) σ) : Quiet P o a w C m tk (vval (.fld off x) σ) := by
 cases ho : o.op <;> rw [ho] at hm <;> first | (simp [mop] at hm; done) | skip
 rename_i t x0 i
 simp only [mop, Bool.and_eq_true] at hm
 obtain ⟨h1, h2⟩ := hm
 split at h2 <;> first | (simp at h2; done) | skip
 rename_i o1 ft hf
 simp only [Bool.and_eq_true, beq_iff_eq] at h2
 obtain ⟨rfl, h2⟩ := h2
 split at h2 <;> first | (simp at h2; done) | skip
 rename_i s hs
 obtain ⟨fs, f, hu, hfi, rfl, rfl⟩ := fldOf_spec hf
 have hs0 : s ≠ 0 := by simpa using h2
 have r1 := opd_rep h h1
 have hrun : ∀ blk off', a.eval x0 = .pointer (some ⟨blk, off', none⟩) → (execOp a.eval o).run P w = .ok (.value (.pointer (some ⟨blk, off' + f.offset, none⟩))) w := by
  intro blk off' he
  simp [execOp, ho, he, Instr.fieldAt, run_underlying hu, hfi, Instr.sureAddr, fieldPlace, run_szOf hs, hs0, add_none]
 simp only [vcond] at hc
 simp only [vval]
 generalize ev σ x = u at *
 cases u <;> first | exact hc.elim | skip
 ·rename_i sz es i1 off1
  obtain ⟨blk, o', f', hr, hrow⟩ := rep0_ref_inv r1
  exact quiet_of (hrun _ _ hr) (Rep0.toRep (hrow.ref (by omega)))
 ·obtain ⟨blk, h1, h2⟩ := r1
  exact quiet_of (hrun _ _ h2) ⟨blk, h1, rfl⟩
theorem q_idx {o : Oper} (h : Rel N C0 w0 σ a w C m tk own) {x i : VO} {sz : Nat} (hm : mop P o.op (.idx sz x i) = true) (hc : vcond (.idx sz x i) σ) : Quiet P o a w C m tk (vval (.idx sz x i) σ) := by
 cases ho : o.op <;> rw [ho] at hm <;> first | (simp [mop] at hm; done) | skip
 rename_i t x0 i0
 simp only [mop, Bool.and_eq_true] at hm
 obtain ⟨⟨h1, h2⟩, h3⟩ := hm
 split at h3 <;> first | (simp at h3; done) | skip
 rename_i e he
 have hsz : szOf P e = some sz := by simpa using h3
 have hu := elOf_spec he
 have r1 := opd_rep h h1
 have r2 := opd_rep h h2
 simp only [vcond] at hc
 simp only [vval]
 generalize ev σ x = u at *
 generalize ev σ i = v at *
 cases v with
 | int n =>
  have e2 := rep_int r2
  have hrun : ∀ blk off len cap, 0 ≤ n → n < (len : Nat) → a.eval x0 = .slice (some ⟨blk, off, none⟩) len cap → (execOp a.eval o).run P w = .ok (.value (.pointer (some ⟨blk, off + n.toNat * sz, none⟩))) w := by
   intro blk off len cap hn0 hn1 he
   simp [execOp, ho, he, e2, Instr.indexAt, run_underlying hu, asIntOf, run_szOf hsz, hn0, hn1, add_none]
  cases u <;> first | exact hc.elim | skip
  ·rename_i sz' es md
   obtain ⟨rfl, hn0, hn1⟩ := hc
   rcases rep0_sl_inv (rep_sl r1) with ⟨rfl, _⟩ | ⟨blk, o', cap, f', hr, hcap, hrow⟩
   ·simp at hn1; omega
   ·exact quiet_of (hrun _ _ _ _ hn0 hn1 hr) (Rep0.toRep (hrow.ref (by omega)))
  ·rename_i b off sz' k ag
   obtain ⟨rfl, hn0, hn1⟩ := hc
   obtain ⟨blk, cap, h1, h2, h3⟩ := r1
   exact quiet_of (hrun _ _ _ _ hn0 hn1 h3) ⟨blk, h1, rfl⟩
  ·rename_i b i1 u1 sz' k ag
   obtain ⟨rfl, hn0, hn1⟩ := hc
   obtain ⟨blk, h1, h2⟩ := r1
   rcases h2 with ⟨rfl, _⟩ | ⟨_, cap, _, h3, _⟩
   ·simp at hn1; omega
   ·exact quiet_of (hrun _ _ _ _ hn0 hn1 h3) ⟨blk, h1, by rw [Nat.zero_add]⟩
 | _ => cases u <;> exact hc.elim
theorem q_idxA {o : Oper} (h : Rel N C0 w0 σ a w C m tk own) {x i : VO} {len sz : Nat} (hm : mop P o.op (.idxA len sz x i) = true) (hc : vcond (.idxA len sz x i) σ) : Quiet P o a w C m tk (vval (.idxA len sz x i) σ) := by
 cases ho : o.op <;> rw [ho] at hm <;> first | (simp [mop] at hm; done) | skip
 rename_i t x0 i0
 simp only [mop, Bool.and_eq_true] at hm
 obtain ⟨⟨h1, h2⟩, h3⟩ := hm
 split at h3 <;> first | (simp at h3; done) | skip
 rename_i k e he
 simp only [Bool.and_eq_true, beq_iff_eq] at h3
 obtain ⟨rfl, hsz⟩ := h3
 have hu := arOf_spec he
 have r1 := opd_rep h h1
 have r2 := opd_rep h h2
 simp only [vcond] at hc
 simp only [vval]
 generalize ev σ x = u at *
 generalize ev σ i = v at *
 cases v with
 | int n =>
  have e2 := rep_int r2
  have hrun : ∀ blk off, 0 ≤ n → n < (k : Nat) → a.eval x0 = .pointer (some ⟨blk, off, none⟩) → (execOp a.eval o).run P w = .ok (.value (.pointer (some ⟨blk, off + n.toNat * sz, none⟩))) w := by
   intro blk off hn0 hn1 he
   simp [execOp, ho, he, e2, Instr.indexAt, run_underlying hu, asIntOf, run_szOf hsz, hn0, hn1, add_none, Instr.sureAddr]
  cases u <;> first | exact hc.elim | skip
  ·rename_i z es i1 off1
   obtain ⟨blk, o', f', hr, hrow⟩ := rep0_ref_inv r1
   exact quiet_of (hrun _ _ hc.1 hc.2 hr) (Rep0.toRep (hrow.ref (by omega)))
  ·obtain ⟨blk, h1, h2⟩ := r1
   exact quiet_of (hrun _ _ hc.1 hc.2 h2) ⟨blk, h1, rfl⟩
 | _ => cases u <;> exact hc.elim
end
end Go.V

set_option linter.unusedSimpArgs false
set_option linter.unusedVariables false
set_option linter.unnecessarySimpa false
namespace Go.V
open Go Go.RowKit
section
variable {P : Program}
variable {N : Cfg} {C0 : Nat → Nat → Prop} {w0 : World} {σ : AS} {a : Act} {w : World} {C : Nat → Nat → Prop} {m : Nat → Option Nat} {tk : Nat → Option TK} {own : Nat → Option (Nat ⊕ Nat)}
theorem chunk_rep {vs : Array Value} {cs : List AV} (hn : vs.size = cs.length) (hk : ∀ (j : Nat) (c : AV), cs[j]? = some c → c.isCell = true)
  (hr : ∀ (j : Nat) (c : AV), cs[j]? = some c → Rep0 C w (vs[j]?.getD undef) c) {off n : Nat} {ag : Bool} (h : off + n ≤ cs.length) (hag : ag = true ∨ n = 1) :
  Rep0 C w (if ag then .agg (vs.extract off (off + n)) else vs[off]?.getD undef) (chunk ag n cs off) := by
 unfold chunk
 cases ag with
 | true =>
  simp only [if_true]
  refine .agg _ _ (by simp; omega) (fun j c hj => ?_) (fun j c hj => ?_)
  ·rw [List.getElem?_take] at hj
   split at hj
   ·exact hk (off + j) c (by simpa using hj)
   ·simp at hj
  ·rw [List.getElem?_take] at hj
   split at hj
   ·have h1 : cs[off + j]? = some c := by simpa using hj
    have h2 := hr _ _ h1
    have hlt : off + j < vs.size := by
     rw [hn]
     exact (List.getElem?_eq_some_iff.1 h1).1
    rw [Array.getElem?_extract, if_pos (by omega)]
    exact h2
   ·simp at hj
 | false =>
  have h1 : n = 1 := by simpa using hag
  subst h1
  have hlt : off < cs.length := by omega
  simp only [Bool.false_eq_true, if_false, List.getElem?_eq_getElem hlt, Option.getD_some]
  exact hr off _ (by simp [hlt])
theorem run_part {ft : TypeId} {n : Nat} {ag : Bool} {vs : Array Value} {off : Nat} (hs : szOf P ft = some n) (ha : aggOf P ft = some ag) (hfit : ag = true ∨ off < vs.size) (w : World) :
  (part ft vs off).run P w = .ok (if ag then .agg (vs.extract off (off + n)) else vs[off]?.getD undef) w := by
 cases ag with
 | true => simp [part, run_aggOf ha, run_szOf hs]
 | false =>
  have hlt : off < vs.size := by simpa using hfit
  simp [part, run_aggOf ha, hlt]
theorem rep0_agg_inv {v : Value} {cs : List AV} (h : Rep0 C w v (.agg cs)) : ∃ vs, v = .agg vs ∧ vs.size = cs.length ∧ (∀ (j : Nat) (c : AV), cs[j]? = some c → c.isCell = true) ∧
  ∀ (j : Nat) (c : AV), cs[j]? = some c → Rep0 C w (vs[j]?.getD undef) c := by
 cases h with
 | agg vs cs hn hk h => exact ⟨vs, rfl, hn, hk, h⟩
theorem q_fieldV {o : Oper} (h : Rel N C0 w0 σ a w C m tk own) {off n : Nat} {ag : Bool} {x : VO} (hm : mop P o.op (.fieldV off n ag x) = true) (hc : vcond (.fieldV off n ag x) σ) : Quiet P o a w C m tk (vval (.fieldV off n ag x) σ) := by
 cases ho : o.op <;> rw [ho] at hm <;> first | (simp [mop] at hm; done) | skip
 rename_i t x0 i
 simp only [mop, Bool.and_eq_true] at hm
 obtain ⟨h1, h2⟩ := hm
 split at h2 <;> first | (simp at h2; done) | skip
 rename_i o1 ft hf
 simp only [Bool.and_eq_true, beq_iff_eq] at h2
 obtain ⟨⟨⟨rfl, hs⟩, ha⟩, hag⟩ := h2
 obtain ⟨fs, f, hu, hfi, rfl, rfl⟩ := fldOf_spec hf
 have r1 := opd_rep h h1
 simp only [vcond] at hc
 simp only [vval]
 generalize ev σ x = u at *
 have hag' : ag = true ∨ n = 1 := by simpa using hag
 cases u <;> first | exact hc.elim | skip
 ·rename_i cs
  obtain ⟨vs, he, hn, hk, hr⟩ := rep0_agg_inv r1
  have hfit : ag = true ∨ f.offset < vs.size := by
   rcases hag' with hq | hq
   ·exact .inl hq
   ·exact .inr (by omega)
  refine quiet_of (by simp [execOp, ho, he, Instr.field, run_underlying hu, hfi, asAgg, run_part hs ha hfit]; rfl) ?_
  exact (chunk_rep hn hk hr hc hag').toRep
 ·rename_i cs
  obtain ⟨vs, he, hn, hr⟩ := r1
  have hfit : ag = true ∨ f.offset < vs.size := by
   rcases hag' with hq | hq
   ·exact .inl hq
   ·exact .inr (by omega)
  refine quiet_of (by simp [execOp, ho, he, Instr.field, run_underlying hu, hfi, asAgg, run_part hs ha hfit]; rfl) ?_
  cases ag with
  | true =>
   simp only [if_true]
   refine ⟨_, rfl, by simp; omega, fun j c hj => ?_⟩
   rw [List.getElem?_take] at hj
   split at hj
   ·have h1 : cs[f.offset + j]? = some c := by simpa using hj
    have h2 := hr _ _ h1
    have hlt : f.offset + j < vs.size := by
     rw [hn]
     exact (List.getElem?_eq_some_iff.1 h1).1
    rw [Array.getElem?_extract, if_pos (by omega)]
    exact h2
   ·simp at hj
  | false =>
   have h1 : n = 1 := by simpa using hag'
   subst h1
   have hlt : f.offset < cs.length := by omega
   simp only [Bool.false_eq_true, if_false, List.getElem?_eq_getElem hlt, Option.getD_some]
   exact rep1_toRep (hr f.offset _ (by simp [hlt])).2.2
theorem q_indexV {o : Oper} (h : Rel N C0 w0 σ a w C m tk own) {len sz : Nat} {ag : Bool} {x i : VO} (hm : mop P o.op (.indexV len sz ag x i) = true) (hc : vcond (.indexV len sz ag x i) σ) : Quiet P o a w C m tk (vval (.indexV len sz ag x i) σ) := by
 cases ho : o.op <;> rw [ho] at hm <;> first | (simp [mop] at hm; done) | skip
 rename_i t x0 i0
 simp only [mop, Bool.and_eq_true] at hm
 obtain ⟨⟨h1, h2⟩, h3⟩ := hm
 split at h3 <;> first | (simp at h3; done) | skip
 rename_i k e he
 simp only [Bool.and_eq_true, beq_iff_eq] at h3
 obtain ⟨⟨⟨rfl, hs⟩, ha⟩, hag⟩ := h3
 have hu := arOf_spec he
 have r1 := opd_rep h h1
 have r2 := opd_rep h h2
 simp only [vcond] at hc
 simp only [vval]
 generalize ev σ x = u at *
 generalize ev σ i = v at *
 cases v with
 | int n =>
  have e2 := rep_int r2
  cases u <;> first | exact hc.elim | skip
  rename_i cs
  obtain ⟨vs, he, hn, hk, hr⟩ := rep0_agg_inv r1
  obtain ⟨hl, hp, hn0, hn1⟩ := hc
  have hag' : ag = true ∨ sz = 1 := by simpa using hag
  have hle : n.toNat * sz + sz ≤ cs.length := by
   have : (n.toNat + 1) * sz ≤ k * sz := Nat.mul_le_mul_right _ (by omega)
   rw [Nat.add_mul, Nat.one_mul] at this
   omega
  have hfit : ag = true ∨ n.toNat * sz < vs.size := .inr (by omega)
  refine quiet_of (by simp [execOp, ho, he, e2, Instr.index, run_underlying hu, asIntOf, hn0, hn1, run_szOf hs, run_part hs ha hfit]; rfl) ?_
  simp only [AV.toInt, AV.cells]
  exact (chunk_rep hn hk hr hle hag').toRep
 | _ => cases u <;> exact hc.elim
theorem Row.part {blk o sz : Nat} {es : List AV} {f : Nat → Nat → Value} (h : Row C w blk o sz es f) (l k : Nat) (hl : l + k ≤ es.length) :
  Row C w blk (o + l * sz) sz ((es.take (l + k)).drop l) (fun i j => f (l + i) j) := by
 have hg : ∀ (i : Nat) (e : AV), ((es.take (l + k)).drop l)[i]? = some e → es[l + i]? = some e ∧ i < k := by
  intro i e he
  rw [List.getElem?_drop, List.getElem?_take] at he
  split at he
  ·exact ⟨he, by omega⟩
  ·simp at he
 have ha : ∀ i j, o + l * sz + i * sz + j = o + (l + i) * sz + j := by intro i j; rw [Nat.add_mul]; omega
 have hlen : ((es.take (l + k)).drop l).length = k := by simp; omega
 refine ⟨fun i e he => h.hsz _ e (hg i e he).1, fun i e he => h.hk _ e (hg i e he).1, fun i j hi hj => ?_, fun i j hi hj => ?_, fun i e he => h.hka _ e (hg i e he).1, fun i e he => h.hr _ e (hg i e he).1⟩
 ·rw [ha]; exact h.hc _ _ (by omega) hj
 ·rw [ha]; exact h.hv _ _ (by omega) hj
theorem opdo_int (h : Rel N C0 w0 σ a w C m tk own) {x : Option Operand} {y : Option VO} {d l : Int} (hx : opdo x y = true) (he : optInt σ d y = .int l) :
  (x = none ∧ l = d) ∨ ∃ u, x.map a.eval = some (.int .i64 l) ∧ x = some u := by
 cases x with
 | none =>
  cases y with
  | none => simp only [optInt] at he; injection he with he; exact .inl ⟨rfl, he.symm⟩
  | some y => simp [opdo] at hx
 | some u =>
  cases y with
  | none => simp [opdo] at hx
  | some y =>
   simp only [opdo] at hx
   simp only [optInt] at he
   have := opd_rep h hx
   rw [he] at this
   exact .inr ⟨u, by simp [rep_int this], rfl⟩
theorem run_sliceBound {n : Int} {y : Nat} {code : BoundsCode} (h0 : 0 ≤ n) (h1 : n ≤ y) (w : World) : (Instr.sliceBound (.int .i64 n) y code).run P w = .ok n.toNat w := by
 simp [Instr.sliceBound, asIntOf, h0, h1]
theorem run_slice {t e : TypeId} {sz : Nat} (hu : P.underlying t = some (.slice e)) (hs : szOf P e = some sz) {b : Option Addr} {len cap : Nat} {lo hi mx : Option Value} {l h m : Nat} (w : World)
  (hb : (Instr.sliceBounds true len cap lo hi mx).run P w = .ok (l, h, m) w) :
  (Instr.sliceAt t (.slice b len cap) lo hi mx).run P w = .ok (.slice (if m = l then b else b.map (·.add (l * sz))) (h - l) (m - l)) w := by
 simp [Instr.sliceAt, run_underlying hu, Instr.slice, hb, run_szOf hs]
theorem slice_rep {v : Value} {sz : Nat} {es : List AV} (h : Rep0 C w v (.sl sz es .sh)) {l k : Nat} (hl : l + k ≤ es.length) :
  ∃ b cap, v = .slice b es.length cap ∧ es.length ≤ cap ∧ ∀ m, l + k ≤ m → m ≤ cap → Rep0 C w (.slice (if m = l then b else b.map (·.add (l * sz))) k (m - l)) (.sl sz ((es.take (l + k)).drop l) .sh) := by
 rcases rep0_sl_inv h with ⟨rfl, b, cap, rfl⟩ | ⟨blk, o, cap, f, rfl, hcap, hrow⟩
 ·refine ⟨b, cap, rfl, by simp, fun m _ _ => ?_⟩
  have hk : k = 0 := by simp at hl; omega
  subst hk
  simpa using Rep0.sl0 _ _ _
 ·refine ⟨_, cap, rfl, hcap, fun m h1 h2 => ?_⟩
  by_cases hk : k = 0
  ·subst hk
   have : (es.take (l + 0)).drop l = [] := by
    apply List.eq_nil_of_length_eq_zero
    simp <;> omega
   rw [this]
   exact .sl0 _ _ _
  ·have hr := hrow.part l k hl
   have hlen : ((es.take (l + k)).drop l).length = k := by simp; omega
   rw [if_neg (by omega)]
   simp only [Option.map_some, add_none]
   have := hr.sl (cap := m - l) (by omega)
   rw [hlen] at this
   exact this
theorem q_slice {o : Oper} (h : Rel N C0 w0 σ a w C m tk own) {sz : Nat} {x : VO} {lo hi : Option VO} (hm : mop P o.op (.slice sz x lo hi) = true) (hc : vcond (.slice sz x lo hi) σ) : Quiet P o a w C m tk (vval (.slice sz x lo hi) σ) := by
 cases ho : o.op <;> rw [ho] at hm <;> first | (simp [mop] at hm; done) | skip
 rename_i t x0 lo0 hi0 mx0
 simp only [mop, Bool.and_eq_true] at hm
 obtain ⟨⟨⟨⟨h1, h2⟩, h3⟩, h4⟩, h5⟩ := hm
 split at h5 <;> first | (simp at h5; done) | skip
 rename_i e he
 have hs : szOf P e = some sz := by simpa using h5
 have hu := elOf_spec he
 obtain rfl : mx0 = none := by simpa using h4
 have r1 := opd_rep h h1
 simp only [vcond] at hc
 simp only [vval]
 generalize ev σ x = u at *
 cases u <;> first | exact hc.elim | skip
 rename_i sz' es md
 simp only at hc
 split at hc <;> first | exact hc.elim | skip
 rename_i l k el ek
 obtain ⟨rfl, hl0, hlk, hk⟩ := hc
 have hsum : l.toNat + (k.toNat - l.toNat) = k.toNat := by omega
 obtain ⟨b, cap, hv, hcap, hrep⟩ := slice_rep (rep_sl r1) (l := l.toNat) (k := k.toNat - l.toNat) (by omega)
 rw [hsum] at hrep
 have hbounds : (Instr.sliceBounds true es.length cap (lo0.map a.eval) (hi0.map a.eval) (Option.map a.eval none)).run P w = .ok (l.toNat, k.toNat, cap) w := by
  rcases opdo_int h h2 el with ⟨rfl, rfl⟩ | ⟨u1, e1, rfl⟩ <;> rcases opdo_int h h3 ek with ⟨rfl, rfl⟩ | ⟨u2, e2, rfl⟩
  ·simp [Instr.sliceBounds]
  ·simp only [e2, Option.map_none]
   simp [Instr.sliceBounds, run_sliceBound (P := P) (n := k) (y := cap) (by omega) (by omega)]
  ·simp only [e1, Option.map_none]
   simp [Instr.sliceBounds, run_sliceBound (P := P) (n := l) (y := es.length) (by omega) (by omega)]
  ·simp only [e1, e2, Option.map_none]
   simp [Instr.sliceBounds, run_sliceBound (P := P) (n := k) (y := cap) (by omega) (by omega), run_sliceBound (P := P) (n := l) (y := k.toNat) (by omega) (by omega)]
 refine quiet_of (v := .slice (if cap = l.toNat then b else b.map (·.add (l.toNat * sz'))) (k.toNat - l.toNat) (cap - l.toNat)) ?_ ?_
 ·simp only [execOp, ho, hv]
  simp only [bind_pure_comp, Sem.run_map, run_slice hu hs w hbounds]
  rfl
 ·simp only [el, ek, AV.toInt]
  exact (hrep cap (by omega) (Nat.le_refl _)).toRep
theorem q_sliceF {o : Oper} (h : Rel N C0 w0 σ a w C m tk own) {sz : Nat} {x : VO} {lo hi mx : Option VO} (hm : mop P o.op (.sliceF sz x lo hi mx) = true) (hc : vcond (.sliceF sz x lo hi mx) σ) : Quiet P o a w C m tk (vval (.sliceF sz x lo hi mx) σ) := by
 cases ho : o.op <;> rw [ho] at hm <;> first | (simp [mop] at hm; done) | skip
 rename_i t x0 lo0 hi0 mx0
 simp only [mop, Bool.and_eq_true] at hm
 obtain ⟨⟨⟨⟨⟨⟨h1, h2⟩, h3⟩, h4⟩, h4'⟩, h4''⟩, h5⟩ := hm
 split at h5 <;> first | (simp at h5; done) | skip
 rename_i e he
 have hs : szOf P e = some sz := by simpa using h5
 have hu := elOf_spec he
 have r1 := opd_rep h h1
 simp only [vcond] at hc
 simp only [vval]
 generalize ev σ x = u at *
 cases u <;> first | exact hc.elim | skip
 rename_i sz' es md
 simp only at hc
 split at hc <;> first | exact hc.elim | skip
 rename_i l k mm el ek em
 obtain ⟨rfl, hl0, hlk, hk, rfl⟩ := hc
 have hsum : l.toNat + (mm.toNat - l.toNat) = mm.toNat := by omega
 obtain ⟨b, cap, hv, hcap, hrep⟩ := slice_rep (rep_sl r1) (l := l.toNat) (k := mm.toNat - l.toNat) (by omega)
 rw [hsum] at hrep
 have hbounds : (Instr.sliceBounds true es.length cap (lo0.map a.eval) (hi0.map a.eval) (mx0.map a.eval)).run P w = .ok (l.toNat, mm.toNat, mm.toNat) w := by
  rcases opdo_int h h3 ek with ⟨rfl, rfl⟩ | ⟨u2, e2, rfl⟩
  ·simp at h4''
  ·rcases opdo_int h h4 em with ⟨rfl, rfl⟩ | ⟨u3, e3, rfl⟩
   ·simp at h4'
   ·rcases opdo_int h h2 el with ⟨rfl, rfl⟩ | ⟨u1, e1, rfl⟩
    ·simp only [e2, e3, Option.map_none]
     simp [Instr.sliceBounds, run_sliceBound (P := P) (n := mm) (y := cap) (by omega) (by omega), run_sliceBound (P := P) (n := mm) (y := mm.toNat) (by omega) (by omega)]
    ·simp only [e1, e2, e3]
     simp [Instr.sliceBounds, run_sliceBound (P := P) (n := mm) (y := cap) (by omega) (by omega), run_sliceBound (P := P) (n := mm) (y := mm.toNat) (by omega) (by omega), run_sliceBound (P := P) (n := l) (y := mm.toNat) (by omega) (by omega)]
 refine quiet_of (v := .slice (if mm.toNat = l.toNat then b else b.map (·.add (l.toNat * sz'))) (mm.toNat - l.toNat) (mm.toNat - l.toNat)) ?_ ?_
 ·simp only [execOp, ho, hv]
  simp only [bind_pure_comp, Sem.run_map, run_slice hu hs w hbounds]
  rfl
 ·simp only [el, ek, AV.toInt]
  have hlen : ((es.take mm.toNat).drop l.toNat).length = mm.toNat - l.toNat := by simp; omega
  exact ⟨hrep mm.toNat (by omega) (by omega), _, by rw [hlen]⟩
theorem q_sliceA {o : Oper} (h : Rel N C0 w0 σ a w C m tk own) {len sz : Nat} {ag : Bool} {x : VO} {lo hi : Option VO} (hm : mop P o.op (.sliceA len sz ag x lo hi) = true) (hc : vcond (.sliceA len sz ag x lo hi) σ) : Quiet P o a w C m tk (vval (.sliceA len sz ag x lo hi) σ) := by
 cases ho : o.op <;> rw [ho] at hm <;> first | (simp [mop] at hm; done) | skip
 rename_i t x0 lo0 hi0 mx0
 simp only [mop, Bool.and_eq_true] at hm
 obtain ⟨⟨⟨⟨h1, h2⟩, h3⟩, h4⟩, h5⟩ := hm
 split at h5 <;> first | (simp at h5; done) | skip
 rename_i n e he
 simp only [Bool.and_eq_true, beq_iff_eq] at h5
 obtain ⟨⟨⟨rfl, hs⟩, _⟩, _⟩ := h5
 have hu := arOf_spec he
 obtain rfl : mx0 = none := by simpa using h4
 have r1 := opd_rep h h1
 simp only [vcond] at hc
 simp only [vval]
 generalize ev σ x = u at *
 cases u <;> first | exact hc.elim | skip
 rename_i b o1
 simp only at hc
 split at hc <;> first | exact hc.elim | skip
 rename_i l k el ek
 obtain ⟨hl0, hlk, hk, hlt⟩ := hc
 obtain ⟨blk, hm1, hv⟩ := r1
 have hbounds : (Instr.sliceBounds false n n (lo0.map a.eval) (hi0.map a.eval) (Option.map a.eval none)).run P w = .ok (l.toNat, k.toNat, n) w := by
  rcases opdo_int h h2 el with ⟨rfl, rfl⟩ | ⟨u1, e1, rfl⟩ <;> rcases opdo_int h h3 ek with ⟨rfl, rfl⟩ | ⟨u2, e2, rfl⟩
  ·simp [Instr.sliceBounds]
  ·simp only [e2, Option.map_none]
   simp [Instr.sliceBounds, run_sliceBound (P := P) (n := k) (y := n) (by omega) (by omega)]
  ·simp only [e1, Option.map_none]
   simp [Instr.sliceBounds, run_sliceBound (P := P) (n := l) (y := n) (by omega) (by omega)]
  ·simp only [e1, e2, Option.map_none]
   simp [Instr.sliceBounds, run_sliceBound (P := P) (n := k) (y := n) (by omega) (by omega), run_sliceBound (P := P) (n := l) (y := k.toNat) (by omega) (by omega)]
 refine quiet_of (v := .slice (some ⟨blk, o1 + l.toNat * sz, none⟩) (k.toNat - l.toNat) (n - l.toNat)) ?_ ?_
 ·simp only [execOp, ho, hv]
  have hne : ¬ n = l.toNat := by omega
  simp only [Option.map_none] at hbounds
  simp [Instr.sliceAt, run_underlying hu, Instr.sureAddr, hbounds, run_szOf hs, hne, add_none]
 ·simp only [el, ek, AV.toInt]
  exact ⟨blk, _, hm1, by omega, rfl⟩
theorem q_load {o : Oper} (h : Rel N C0 w0 σ a w C m tk own) {n : Nat} {ag : Bool} {x : VO} {avs : List Nat} (hm : mop P o.op (.load n ag x avs) = true) (hc : vcond (.load n ag x avs) σ)
  (hq : ∀ b off, ev σ x = .ptr b off → ag = false) : Quiet P o a w C m tk (vval (.load n ag x avs) σ) := by
 cases ho : o.op <;> rw [ho] at hm <;> first | (simp [mop] at hm; done) | skip
 rename_i t x0
 simp only [mop, Bool.and_eq_true] at hm
 obtain ⟨⟨⟨h1, hs⟩, ha⟩, hag⟩ := hm
 have hs' : szOf P t = some n := by simpa using hs
 have ha' : aggOf P t = some ag := by simpa using ha
 have hag' : ag = true ∨ n = 1 := by simpa using hag
 have r1 := opd_rep h h1
 simp only [vcond] at hc
 simp only [vval]
 generalize ev σ x = u at *
 cases u <;> first | exact hc.elim | skip
 ·rename_i sz es i off
  obtain ⟨hi, hoff⟩ := hc
  obtain ⟨blk, o', f, hv, hrow⟩ := rep0_ref_inv r1
  have hei : es[i]? = some es[i] := by simp [hi]
  have hcl := hrow.hsz i _ hei
  have hcell : ∀ j, off + j < sz → w.cell? ⟨blk, o' + i * sz + off + j, none⟩ = some (f i (off + j)) := by
   intro j hj
   have := hrow.hv i (off + j) hi hj
   rw [← Nat.add_assoc] at this
   exact this
  simp only [hei, Option.getD_some]
  have hcrep : ∀ (j : Nat) (c : AV), es[i].cells[j]? = some c → c.isCell = true ∧ Rep0 C w (f i j) c := fun j c hj => ⟨hrow.hka i _ hei j c hj, hrow.hr i _ hei j c hj⟩
  cases ag with
  | true =>
   have hl := run_loadCells (P := P) w ⟨blk, o' + i * sz + off, none⟩ n (fun j => f i (off + j)) (fun j hj => by rw [add_none]; exact hcell j (by omega))
   refine quiet_of (by simp [execOp, ho, hv, Instr.loadAt, Instr.sureAddr, loadVar, run_aggOf ha', run_szOf hs', hl]; rfl) ?_
   simp only [chunk, if_true]
   refine .agg _ _ (by simp; omega) (fun j c hj => ?_) (fun j c hj => ?_)
   ·rw [List.getElem?_take] at hj
    split at hj
    ·exact (hcrep (off + j) c (by simpa using hj)).1
    ·simp at hj
   ·rw [List.getElem?_take] at hj
    split at hj
    ·rename_i hlt
     have := (hcrep (off + j) c (by simpa using hj)).2
     simpa [hlt] using this
    ·simp at hj
  | false =>
   have hn1 : n = 1 := by simpa using hag'
   subst hn1
   have h0 := hcell 0 (by omega)
   simp only [Nat.add_zero] at h0
   refine quiet_of (by simp [execOp, ho, hv, Instr.loadAt, Instr.sureAddr, loadVar, run_aggOf ha', h0]; rfl) ?_
   have hlt : off < es[i].cells.length := by omega
   simp only [chunk, Bool.false_eq_true, if_false, List.getElem?_eq_getElem hlt, Option.getD_some]
   exact (hcrep off _ (by simp [hlt])).2.toRep
 ·rename_i b off
  have hagf := hq b off rfl
  subst hagf
  have hn1 : n = 1 := by simpa using hag'
  subst hn1
  obtain ⟨blk, hm1, hv⟩ := r1
  cases hg : getB σ.hp b with
  | none => simp [hg] at hc
  | some bx =>
   simp only [hg] at hc
   obtain ⟨blk', hm2, hbox⟩ := h.boxes b bx hg
   rw [hm1] at hm2
   obtain rfl : blk = blk' := by simpa using hm2
   have hlt : off < bx.cells.length := by omega
   have hget : bx.cells[off]? = some bx.cells[off] := by simp [hlt]
   simp only [hg, Bool.false_eq_true, if_false, hget, Option.getD_some]
   unfold BoxOK at hbox
   cases hf : bx.frz with
   | true =>
    simp only [hf] at hbox
    obtain ⟨c1, c2, v, c3, c4⟩ := hbox off _ hget
    exact quiet_of (v := v) (by simp [execOp, ho, hv, Instr.loadAt, Instr.sureAddr, loadVar, run_aggOf ha', c3]) c4.toRep
   | false =>
    simp only [hf] at hbox
    rcases hbox with ⟨he, _⟩ | hbox
    ·rw [he] at hlt; simp at hlt
    obtain ⟨c1, c2, c3, vs, ty, c4, c5, c6⟩ := hbox
    obtain ⟨d1, d2, d3⟩ := c6 off _ hget
    have hcell : w.cell? ⟨blk, off, none⟩ = some (vs[off]?.getD undef) := by
     have : off < vs.size := by omega
     simp [World.cell?, c4, this]
    exact quiet_of (by simp [execOp, ho, hv, Instr.loadAt, Instr.sureAddr, loadVar, run_aggOf ha', hcell]) d3
end
end Go.V

set_option linter.unusedSimpArgs false
set_option linter.unusedVariables false
set_option linter.unnecessarySimpa false
namespace Go.V
open Go Go.RowKit
theorem getB_setB (b : Nat) (x : BX) (hp : List (Nat × BX)) (c : Nat) : getB (setB b x hp) c = if b = c then some x else getB hp c := by
 induction hp with
 | nil => simp [setB, getB]
 | cons p r ih =>
  obtain ⟨d, y⟩ := p
  simp only [setB]
  split
  ·rename_i h
   subst h
   simp only [getB]
   split <;> rfl
  ·rename_i h
   simp only [getB, ih]
   split
   ·rename_i h2
    subst h2
    rw [if_neg (fun e => h e.symm)]
   ·rfl
theorem getT_setT (k : Nat) (x : Nat) (tk : List (Nat × Nat)) (c : Nat) : getT (setT k x tk) c = if k = c then some x else getT tk c := by
 induction tk with
 | nil => simp [setT, getT]
 | cons p r ih =>
  obtain ⟨d, y⟩ := p
  simp only [setT]
  split
  ·rename_i h
   subst h
   simp only [getT]
   split <;> rfl
  ·rename_i h
   simp only [getT, ih]
   split
   ·rename_i h2
    subst h2
    rw [if_neg (fun e => h e.symm)]
   ·rfl
theorem strip_isCell {hp : List (Nat × BX)} {av : AV} (h : av.isCell = true) : (strip hp av).isCell = true := by
 cases av <;> simp only [strip, strip1] <;> first | exact h | rfl | (simp [AV.isCell] at h; done) | skip
 all_goals (split <;> first | rfl | skip)
 all_goals (split <;> rfl)
theorem strip_elem {hp : List (Nat × BX)} {av : AV} (h : (strip hp av).okv = true) : (strip hp av).isElem = true := by
 cases av <;> simp only [strip, strip1] at h ⊢ <;> first | rfl | (simp [AV.okv] at h; done) | skip
 all_goals (split at h <;> first | (simp [AV.okv] at h; done) | skip)
 ·rfl
 all_goals (split at h <;> first | (simp [AV.okv] at h; done) | (rename_i hq; rw [if_pos hq]; rfl))
def upd {α : Type} (f : Nat → Option α) (k : Nat) (v : Option α) : Nat → Option α := fun x => if x = k then v else f x
section
variable {P : Program}
variable {N : Cfg} {C0 : Nat → Nat → Prop} {w0 : World} {σ : AS} {a : Act} {w : World} {C : Nat → Nat → Prop} {m : Nat → Option Nat} {tk : Nat → Option TK} {own : Nat → Option (Nat ⊕ Nat)}
theorem Rel.frz1 (h : Rel N C0 w0 σ a w C m tk own) (b : Nat) : ∃ C' own', Rel N C0 w0 { σ with hp := frz1 b σ.hp } a w C' m tk own' ∧ (∀ x o, C x o → C' x o) := by
 unfold V.frz1
 cases hg : getB σ.hp b with
 | none => exact ⟨C, own, by simpa using h, fun _ _ x => x⟩
 | some bx =>
  obtain ⟨cells, fz⟩ := bx
  cases fz with
  | true => exact ⟨C, own, by simpa using h, fun _ _ x => x⟩
  | false =>
   obtain ⟨blk, hm1, hbox⟩ := h.boxes b _ hg
   simp only [BoxOK] at hbox
   rcases hbox with ⟨hce, hgb⟩ | hbox
   ·-- nothing is in it
    subst hce
    refine ⟨C, own, ?_, fun _ _ x => x⟩
    refine { gf := h.gf, below := h.below, c0 := h.c0, cnew := h.cnew, cval := h.cval, nc := h.nc, ext := h.ext, size := h.size, slots := h.slots, boxes := ?_, mdom := ?_, toks := h.toks, tdom := h.tdom, owned := h.owned, owns := h.owns }
    ·intro b' bx' hb'
     simp only [getB_setB] at hb'
     split at hb'
     ·rename_i heq
      subst heq
      injection hb' with hb'
      subst hb'
      exact ⟨blk, hm1, fun j av hj => by simp at hj⟩
     ·exact h.boxes b' bx' hb'
    ·intro b' blk' hx
     have := h.mdom b' blk' hx
     simp only [getB_setB]
     split
     ·rfl
     ·exact this
   obtain ⟨c1, c2, c3, vs, ty, c4, c5, c6⟩ := hbox
   have hmono : ∀ x o, C x o → C x o ∨ (x = blk ∧ o < cells.length) := fun _ _ x => .inl x
   have hsame : Same C w w := Same.refl _ _
   refine ⟨fun x o => C x o ∨ (x = blk ∧ o < cells.length), upd own blk none, ?_, hmono⟩
   refine { gf := h.gf, below := h.below, c0 := fun x o hx => .inl (h.c0 x o hx), cnew := ?_, cval := ?_, nc := h.nc, ext := fun p hp t => (h.ext p hp t).mono hmono hsame, size := h.size, slots := fun t => (h.slots t).mono hmono hsame, boxes := ?_, mdom := ?_, toks := ?_, tdom := h.tdom, owned := ?_, owns := ?_ }
   ·rintro x o (hx | ⟨rfl, _⟩)
    ·exact h.cnew x o hx
    ·exact .inr c2
   ·rintro x o (hx | ⟨rfl, _⟩)
    ·exact h.cval x o hx
    ·exact h.owned _ _ c1
   ·intro b' bx' hb'
    simp only [getB_setB] at hb'
    split at hb'
    ·rename_i heq
     subst heq
     injection hb' with hb'
     subst hb'
     refine ⟨blk, hm1, ?_⟩
     simp only [BoxOK]
     intro j av hj
     rw [List.getElem?_map] at hj
     obtain ⟨av0, hj0, rfl⟩ := Option.map_eq_some_iff.1 hj
     have hlt := (List.getElem?_eq_some_iff.1 hj0).1
     obtain ⟨d1, d2, d3⟩ := c6 j av0 hj0
     have hcell : w.cell? ⟨blk, j, none⟩ = some (vs[j]?.getD undef) := by
      have : j < vs.size := by omega
      simp [World.cell?, c4, this]
     refine ⟨Or.inr (by simp [hlt]), strip_isCell d1, _, hcell, ?_⟩
     by_cases hu : strip σ.hp av0 = .und
     ·rw [hu]; exact .und _ d2
     ·exact (strip_rep h d3 hu).mono hmono hsame
    ·rename_i hne
     obtain ⟨blk', e1, e2⟩ := h.boxes b' bx' hb'
     refine ⟨blk', e1, ?_⟩
     unfold BoxOK at e2 ⊢
     cases hf : bx'.frz with
     | true =>
      simp only [hf] at e2 ⊢
      intro j av hj
      obtain ⟨f1, f2, v, f3, f4⟩ := e2 j av hj
      exact ⟨.inl f1, f2, v, f3, f4.mono hmono hsame⟩
     | false =>
      simp only [hf] at e2 ⊢
      rcases e2 with e2 | e2
      ·exact .inl e2
      obtain ⟨f1, f2, f3, vs', ty', f4, f5, f6⟩ := e2
      have hbb : blk' ≠ blk := by
       intro e
       rw [e, c1] at f1
       simp at f1
       exact hne f1
      refine .inr ⟨by simp [upd, hbb, f1], f2, ?_, vs', ty', f4, f5, fun j av hj => ?_⟩
      ·rintro o (hx | ⟨rfl, _⟩)
       ·exact f3 o hx
       ·exact hbb rfl
      ·obtain ⟨g1, g2, g3⟩ := f6 j av hj
       exact ⟨g1, g2, g3.mono hmono hsame⟩
   ·intro b' blk' hx
    have := h.mdom b' blk' hx
    simp only [getB_setB]
    split
    ·rfl
    ·exact this
   ·intro k n hk
    obtain ⟨T, e1, e2, e3, e4⟩ := h.toks k n hk
    refine ⟨T, e1, e2, e3, fun hlt => ?_⟩
    obtain ⟨blk', f1, f2, f3, f4, f5⟩ := e4 hlt
    have hbb : blk' ≠ blk := by
     intro e
     rw [e, c1] at f2
     simp at f2
    refine ⟨blk', f1, by simp [upd, hbb, f2], f3, ?_, f5⟩
    rintro o ho (hx | ⟨rfl, _⟩)
    ·exact f4 o ho hx
    ·exact hbb rfl
   ·intro blk' x hx
    unfold upd at hx
    split at hx
    ·simp at hx
    ·exact h.owned _ _ hx
   ·intro blk' x hx
    unfold upd at hx
    split at hx
    ·simp at hx
    ·exact h.owns _ _ hx
theorem Rel.frzL (h : Rel N C0 w0 σ a w C m tk own) (bs : List Nat) : ∃ C' own', Rel N C0 w0 (frzS bs σ) a w C' m tk own' ∧ (∀ x o, C x o → C' x o) := by
 induction bs generalizing σ C own with
 | nil => exact ⟨C, own, h, fun _ _ x => x⟩
 | cons b r ih =>
  obtain ⟨C1, own1, h1, hc1⟩ := h.frz1 b
  obtain ⟨C2, own2, h2, hc2⟩ := ih h1
  exact ⟨C2, own2, h2, fun x o hx => hc2 _ _ (hc1 _ _ hx)⟩
theorem below_alloc (w : World) (o : Obj) : Below w.heap.size w (w.alloc o) := (Below.refl _ _).alloc (Nat.le_refl _) _
theorem Rel.addBox (h : Rel N C0 w0 σ a w C m tk own) {b0 : Nat} (hb0 : getB σ.hp b0 = none) {vs : Array Value} {ty : TypeId} {cells : List AV} (hn : vs.size = cells.length)
  (hc : ∀ (j : Nat) (av : AV), cells[j]? = some av → av.isCell = true ∧ (vs[j]?.getD undef).oneCell' = true ∧ Rep C w m tk (vs[j]?.getD undef) av) :
  Rel N C0 w0 { σ with hp := (b0, ⟨cells, false⟩) :: σ.hp } a (w.alloc (.cells vs ty)) C (upd m b0 (some w.heap.size)) tk (upd own w.heap.size (some (.inl b0))) := by
 have hm : ∀ b blk, m b = some blk → upd m b0 (some w.heap.size) b = some blk := by
  intro b blk hb
  have := h.mdom b blk hb
  unfold upd
  rw [if_neg (fun e => by subst e; rw [hb0] at this; simp at this)]
  exact hb
 have ht : ∀ k T, tk k = some T → ∃ T', tk k = some T' ∧ T'.sz = T.sz ∧ T.tip ≤ T'.tip ∧ (T'.tip = T.tip → T' = T) := fun k T hk => ⟨T, hk, rfl, Nat.le_refl _, fun _ => rfl⟩
 have h' := h.later (below_alloc w (.cells vs ty)) (C' := C) (fun _ _ x => x) (fun _ _ x => .inl x) (fun b o hb => by have := h.cval b o hb; simp; omega)
 have hs : Same C w (w.alloc (.cells vs ty)) := same_of_below h.cval (below_alloc w _)
 have hown : ∀ blk x, own blk = some x → upd own w.heap.size (some (.inl b0)) blk = some x := by
  intro blk x hx
  have := h.owned blk x hx
  unfold upd
  rw [if_neg (by omega)]
  exact hx
 refine { gf := h'.gf, below := h'.below, c0 := h'.c0, cnew := h'.cnew, cval := h'.cval, nc := h'.nc, ext := fun p hp t => (h'.ext p hp t).ext hm ht, size := h'.size, slots := fun t => (h'.slots t).ext hm ht, boxes := ?_, mdom := ?_, toks := ?_, tdom := h'.tdom, owned := ?_, owns := ?_ }
 ·intro b bx hb
  simp only [getB] at hb
  split at hb
  ·rename_i heq
   subst heq
   injection hb with hb
   subst hb
   refine ⟨w.heap.size, by simp [upd], ?_⟩
   simp only [BoxOK]
   refine .inr ⟨by simp [upd], h.below.size, ?_, vs, ty, heap_alloc_new w _, Nat.le_of_eq hn.symm, fun j av hj => ?_⟩
   ·intro o ho
    have := h.cval _ _ ho
    omega
   ·obtain ⟨d1, d2, d3⟩ := hc j av hj
    exact ⟨d1, d2, (d3.mono (fun _ _ x => x) hs).ext hm ht⟩
  ·obtain ⟨blk, e1, e2⟩ := h'.boxes b bx hb
   refine ⟨blk, hm _ _ e1, ?_⟩
   unfold BoxOK at e2 ⊢
   cases hf : bx.frz with
   | true => simp only [hf] at e2 ⊢; exact e2
   | false =>
    simp only [hf] at e2 ⊢
    rcases e2 with e2 | e2
    ·exact .inl e2
    obtain ⟨f1, f2, f3, vs', ty', f4, f5, f6⟩ := e2
    refine .inr ⟨hown _ _ f1, f2, f3, vs', ty', f4, f5, fun j av hj => ?_⟩
    obtain ⟨g1, g2, g3⟩ := f6 j av hj
    exact ⟨g1, g2, g3.ext hm ht⟩
 ·intro b blk hb
  simp only [getB]
  unfold upd at hb
  split at hb
  ·rename_i heq
   rw [if_pos heq.symm]
   rfl
  ·split
   ·rfl
   ·exact h.mdom b blk hb
 ·intro k n hk
  obtain ⟨T, e1, e2, e3, e4⟩ := h'.toks k n hk
  refine ⟨T, e1, e2, e3, fun hlt => ?_⟩
  obtain ⟨blk, f1, f2, f3⟩ := e4 hlt
  exact ⟨blk, f1, hown _ _ f2, f3⟩
 ·intro blk x hx
  unfold upd at hx
  split at hx
  ·rename_i heq; subst heq; rw [World.size_alloc]; omega
  ·exact h'.owned _ _ hx
 ·intro blk x hx
  unfold upd at hx
  split at hx
  ·rename_i heq; subst heq; exact h.below.size
  ·exact h'.owns _ _ hx
theorem cw_setRow {blk : Nat} {vs0 vs : Array Value} {ty : TypeId} (hb : w.heap[blk]? = some (.cells vs0 ty (0, 0))) (hn : vs.size = vs0.size) : ∀ b k, CW w b k → CW (w.setRow blk vs) b k := by
 rintro b k ⟨us, t, h1, h2⟩
 by_cases he : b = blk
 ·subst he
  rw [hb] at h1
  injection h1 with h1
  injection h1 with h1 _ _
  subst h1
  exact ⟨vs, ty, setRow_heap w b _ vs ty (0, 0) hb, by omega⟩
 ·exact ⟨us, t, by rw [setRow_other w blk b vs he]; exact h1, h2⟩
theorem same_setRow {blk : Nat} {vs0 vs : Array Value} {ty : TypeId} (hb : w.heap[blk]? = some (.cells vs0 ty (0, 0))) (hn : vs.size = vs0.size) (hno : ∀ o, ¬ C blk o) : Same C w (w.setRow blk vs) := by
 refine ⟨?_, cw_setRow hb hn⟩
 clear hb hn
 intro b o hb
 by_cases he : b = blk
 ·subst he; exact absurd hb (hno o)
 ·simp only [World.cell?]
  rw [setRow_other w blk b vs he]
theorem nc_setRow {blk : Nat} {vs0 vs : Array Value} {ty : TypeId} {g : Nat × Nat} (h : w.heap[blk]? = some (.cells vs0 ty g)) : NC w (w.setRow blk vs) := by
 intro b o hb ho
 by_cases he : b = blk
 ·subst he
  rw [h] at hb
  injection hb with hb
  subst hb
  simp [ctlm, ctl] at ho
 ·rw [setRow_other w blk b vs he]; exact hb
theorem Rel.setBox (h : Rel N C0 w0 σ a w C m tk own) {b blk : Nat} {cells cells' : List AV} (hg : getB σ.hp b = some ⟨cells, false⟩) (hm1 : m b = some blk) {vs' : Array Value}
  (hne : cells ≠ []) (hsz : ∀ vs ty, w.heap[blk]? = some (.cells vs ty (0, 0)) → vs'.size = vs.size) (hn : cells'.length ≤ vs'.size)
  (hc : ∀ (j : Nat) (av : AV), cells'[j]? = some av → av.isCell = true ∧ (vs'[j]?.getD undef).oneCell' = true ∧ Rep C w m tk (vs'[j]?.getD undef) av) :
  Rel N C0 w0 { σ with hp := setB b ⟨cells', false⟩ σ.hp } a (w.setRow blk vs') C m tk own := by
 obtain ⟨blk', hm2, hbox⟩ := h.boxes b _ hg
 rw [hm1] at hm2
 obtain rfl : blk = blk' := by simpa using hm2
 simp only [BoxOK] at hbox
 rcases hbox with ⟨hce, _⟩ | hbox
 ·exact absurd hce hne
 obtain ⟨c1, c2, c3, vs, ty, c4, c5, c6⟩ := hbox
 have hs : Same C w (w.setRow blk vs') := same_setRow c4 (hsz _ _ c4) c3
 refine { gf := h.gf, below := ?_, c0 := h.c0, cnew := h.cnew, cval := ?_, nc := h.nc.mono (nc_setRow c4), ext := fun p hp t => (h.ext p hp t).mono (fun _ _ x => x) hs, size := h.size, slots := fun t => (h.slots t).mono (fun _ _ x => x) hs, boxes := ?_, mdom := ?_, toks := ?_, tdom := h.tdom, owned := ?_, owns := h.owns }
 ·exact h.below.trans ⟨rfl, rfl, rfl, by simp, fun k hk => setRow_other w blk k vs' (by omega)⟩
 ·intro x o hx; simpa using h.cval x o hx
 ·intro b' bx' hb'
  simp only [getB_setB] at hb'
  split at hb'
  ·rename_i heq
   subst heq
   injection hb' with hb'
   subst hb'
   refine ⟨blk, hm1, ?_⟩
   simp only [BoxOK]
   refine .inr ⟨c1, c2, c3, vs', ty, setRow_heap w blk vs vs' ty (0, 0) c4, hn, fun j av hj => ?_⟩
   obtain ⟨d1, d2, d3⟩ := hc j av hj
   exact ⟨d1, d2, d3.mono (fun _ _ x => x) hs⟩
  ·rename_i hne
   obtain ⟨blk', e1, e2⟩ := h.boxes b' bx' hb'
   refine ⟨blk', e1, ?_⟩
   unfold BoxOK at e2 ⊢
   cases hf : bx'.frz with
   | true =>
    simp only [hf] at e2 ⊢
    intro j av hj
    obtain ⟨f1, f2, v, f3, f4⟩ := e2 j av hj
    exact ⟨f1, f2, v, by rw [hs.1 _ _ f1]; exact f3, f4.mono (fun _ _ x => x) hs⟩
   | false =>
    simp only [hf] at e2 ⊢
    rcases e2 with e2 | e2
    ·exact .inl e2
    obtain ⟨f1, f2, f3, vs2, ty', f4, f5, f6⟩ := e2
    have hbb : blk' ≠ blk := by
     intro e
     rw [e, c1] at f1
     simp at f1
     exact hne f1
    refine .inr ⟨f1, f2, f3, vs2, ty', by rw [setRow_other w blk blk' vs' hbb]; exact f4, f5, fun j av hj => ?_⟩
    obtain ⟨g1, g2, g3⟩ := f6 j av hj
    exact ⟨g1, g2, g3.mono (fun _ _ x => x) hs⟩
 ·intro b' blk' hx
  have := h.mdom b' blk' hx
  simp only [getB_setB]
  split
  ·rfl
  ·exact this
 ·intro k n hk
  obtain ⟨T, e1, e2, e3, e4⟩ := h.toks k n hk
  refine ⟨T, e1, e2, e3, fun hlt => ?_⟩
  obtain ⟨blk', f1, f2, f3, f4, vs2, ty', f5, f6⟩ := e4 hlt
  have hbb : blk' ≠ blk := by
   intro e
   rw [e, c1] at f2
   simp at f2
  exact ⟨blk', f1, f2, f3, f4, vs2, ty', by rw [setRow_other w blk blk' vs' hbb]; exact f5, f6⟩
 ·intro blk' x hx
  simpa using h.owned _ _ hx
theorem setAt_length (cells : List AV) (off : Nat) (vs : List AV) (h : off + vs.length ≤ cells.length) : (setAt cells off vs).length = cells.length := by
 induction cells generalizing off with
 | nil =>
  cases off with
  | zero => simp [setAt]; simpa using h
  | succ n => simp at h
 | cons c cs ih =>
  cases off with
  | zero => simp [setAt]; simp at h; omega
  | succ n => simp only [setAt, List.length_cons]; rw [ih n (by simp at h; omega)]
theorem setAt_get (cells : List AV) (off : Nat) (vs : List AV) (j : Nat) (h : off + vs.length ≤ cells.length) : (setAt cells off vs)[j]? = if off ≤ j ∧ j < off + vs.length then vs[j - off]? else cells[j]? := by
 induction cells generalizing off j with
 | nil =>
  cases off with
  | zero =>
   have : vs = [] := List.eq_nil_of_length_eq_zero (by simpa using h)
   subst this
   simp [setAt]
  | succ n => simp at h
 | cons c cs ih =>
  cases off with
  | zero =>
   simp only [setAt, Nat.zero_le, true_and, Nat.zero_add, Nat.sub_zero]
   split
   ·rename_i hlt
    rw [List.getElem?_append_left hlt]
   ·rename_i hge
    rw [List.getElem?_append_right (by omega), List.getElem?_drop]
    congr 1
    omega
  | succ n =>
   cases j with
   | zero => simp [setAt]
   | succ j =>
    simp only [setAt, List.getElem?_cons_succ]
    rw [ih n j (by simp at h; omega)]
    by_cases hc : n ≤ j ∧ j < n + vs.length
    ·rw [if_pos hc, if_pos (by omega)]
     congr 1
     omega
    ·rw [if_neg hc, if_neg (by omega)]
end
end Go.V

set_option linter.unusedSimpArgs false
set_option linter.unusedVariables false
set_option linter.unnecessarySimpa false
namespace Go.V
open Go Go.RowKit
section
variable {P : Program}
variable {N : Cfg} {C0 : Nat → Nat → Prop} {w0 : World} {σ : AS} {a : Act} {w : World} {C : Nat → Nat → Prop} {m : Nat → Option Nat} {tk : Nat → Option TK} {own : Nat → Option (Nat ⊕ Nat)}
theorem Rel.setTok (h : Rel N C0 w0 σ a w C m tk own) {k : Nat} {T T' : TK} (hk : tk k = some T) (hsz : T'.sz = T.sz) (htip : T.tip ≤ T'.tip) (heq : T'.tip = T.tip → T' = T)
  {C' : Nat → Nat → Prop} (hC : ∀ x o, C x o → C' x o) (hC' : ∀ x o, C' x o → C x o ∨ own x = some (.inr k)) (hT : TokOK w0.heap.size C' w own k T') :
  Rel N C0 w0 { σ with tk := setT k T'.tip σ.tk } a w C' m (upd tk k (some T')) own := by
 have ht : ∀ j S, tk j = some S → ∃ S', upd tk k (some T') j = some S' ∧ S'.sz = S.sz ∧ S.tip ≤ S'.tip ∧ (S'.tip = S.tip → S' = S) := by
  intro j S hj
  unfold upd
  by_cases e : j = k
  ·subst e
   rw [hk] at hj
   injection hj with hj
   subst hj
   rw [if_pos rfl]
   exact ⟨T', rfl, hsz, htip, heq⟩
  ·rw [if_neg e]
   exact ⟨S, hj, rfl, Nat.le_refl _, fun _ => rfl⟩
 have hs : Same C w w := Same.refl _ _
 refine { gf := h.gf, below := h.below, c0 := fun x o hx => hC _ _ (h.c0 x o hx), cnew := ?_, cval := ?_, nc := h.nc, ext := fun p hp t => ((h.ext p hp t).mono hC hs).ext (fun _ _ x => x) ht, size := h.size, slots := fun t => ((h.slots t).mono hC hs).ext (fun _ _ x => x) ht, boxes := ?_, mdom := h.mdom, toks := ?_, tdom := ?_, owned := h.owned, owns := h.owns }
 ·intro x o hx
  rcases hC' x o hx with y | y
  ·exact h.cnew x o y
  ·exact .inr (h.owns _ _ y)
 ·intro x o hx
  rcases hC' x o hx with y | y
  ·exact h.cval x o y
  ·exact h.owned _ _ y
 ·intro b bx hb
  obtain ⟨blk, e1, e2⟩ := h.boxes b bx hb
  refine ⟨blk, e1, ?_⟩
  unfold BoxOK at e2 ⊢
  cases hf : bx.frz with
  | true =>
   simp only [hf] at e2 ⊢
   intro j av hj
   obtain ⟨f1, f2, v, f3, f4⟩ := e2 j av hj
   exact ⟨hC _ _ f1, f2, v, f3, f4.mono hC hs⟩
  | false =>
   simp only [hf] at e2 ⊢
   rcases e2 with e2 | e2
   ·exact .inl e2
   obtain ⟨f1, f2, f3, vs', ty', f4, f5, f6⟩ := e2
   refine .inr ⟨f1, f2, ?_, vs', ty', f4, f5, fun j av hj => ?_⟩
   ·intro o ho
    rcases hC' _ _ ho with y | y
    ·exact f3 o y
    ·rw [f1] at y; simp at y
   ·obtain ⟨g1, g2, g3⟩ := f6 j av hj
    exact ⟨g1, g2, (g3.mono hC hs).ext (fun _ _ x => x) ht⟩
 ·intro j n hj
  simp only [getT_setT] at hj
  split at hj
  ·rename_i e
   subst e
   injection hj with hj
   exact ⟨T', by simp [upd], hj, hT⟩
  ·rename_i e
   obtain ⟨S, e1, e2, e3, e4⟩ := h.toks j n hj
   refine ⟨S, by unfold upd; rw [if_neg (fun x => e x.symm)]; exact e1, e2, e3, fun hlt => ?_⟩
   obtain ⟨blk, f1, f2, f3, f4, f5⟩ := e4 hlt
   refine ⟨blk, f1, f2, f3, ?_, f5⟩
   intro o ho hx
   rcases hC' _ _ hx with y | y
   ·exact f4 o ho y
   ·rw [f2] at y
    simp at y
    exact e y.symm
 ·intro j S hj
  simp only [getT_setT]
  split
  ·rfl
  ·rename_i e
   unfold upd at hj
   rw [if_neg (fun x => e x.symm)] at hj
   exact h.tdom j S hj
theorem Rel.addTok (h : Rel N C0 w0 σ a w C m tk own) {k0 : Nat} (hk0 : getT σ.tk k0 = none) {T' : TK}
  {C' : Nat → Nat → Prop} (hC : ∀ x o, C x o → C' x o) (hC' : ∀ x o, C' x o → C x o ∨ own x = some (.inr k0)) (hT : TokOK w0.heap.size C' w own k0 T') :
  Rel N C0 w0 { σ with tk := (k0, T'.tip) :: σ.tk } a w C' m (upd tk k0 (some T')) own := by
 have hne : ∀ j S, tk j = some S → j ≠ k0 := fun j S hj e => by have := h.tdom j S hj; subst e; rw [hk0] at this; simp at this
 have ht : ∀ j S, tk j = some S → ∃ S', upd tk k0 (some T') j = some S' ∧ S'.sz = S.sz ∧ S.tip ≤ S'.tip ∧ (S'.tip = S.tip → S' = S) := by
  intro j S hj
  refine ⟨S, ?_, rfl, Nat.le_refl _, fun _ => rfl⟩
  unfold upd
  rw [if_neg (hne j S hj)]
  exact hj
 have hs : Same C w w := Same.refl _ _
 refine { gf := h.gf, below := h.below, c0 := fun x o hx => hC _ _ (h.c0 x o hx), cnew := ?_, cval := ?_, nc := h.nc, ext := fun p hp t => ((h.ext p hp t).mono hC hs).ext (fun _ _ x => x) ht, size := h.size, slots := fun t => ((h.slots t).mono hC hs).ext (fun _ _ x => x) ht, boxes := ?_, mdom := h.mdom, toks := ?_, tdom := ?_, owned := h.owned, owns := h.owns }
 ·intro x o hx
  rcases hC' x o hx with y | y
  ·exact h.cnew x o y
  ·exact .inr (h.owns _ _ y)
 ·intro x o hx
  rcases hC' x o hx with y | y
  ·exact h.cval x o y
  ·exact h.owned _ _ y
 ·intro b bx hb
  obtain ⟨blk, e1, e2⟩ := h.boxes b bx hb
  refine ⟨blk, e1, ?_⟩
  unfold BoxOK at e2 ⊢
  cases hf : bx.frz with
  | true =>
   simp only [hf] at e2 ⊢
   intro j av hj
   obtain ⟨f1, f2, v, f3, f4⟩ := e2 j av hj
   exact ⟨hC _ _ f1, f2, v, f3, f4.mono hC hs⟩
  | false =>
   simp only [hf] at e2 ⊢
   rcases e2 with e2 | e2
   ·exact .inl e2
   obtain ⟨f1, f2, f3, vs', ty', f4, f5, f6⟩ := e2
   refine .inr ⟨f1, f2, ?_, vs', ty', f4, f5, fun j av hj => ?_⟩
   ·intro o ho
    rcases hC' _ _ ho with y | y
    ·exact f3 o y
    ·rw [f1] at y; simp at y
   ·obtain ⟨g1, g2, g3⟩ := f6 j av hj
    exact ⟨g1, g2, (g3.mono hC hs).ext (fun _ _ x => x) ht⟩
 ·intro j n hj
  simp only [getT] at hj
  split at hj
  ·rename_i e
   subst e
   injection hj with hj
   exact ⟨T', by simp [upd], hj, hT⟩
  ·rename_i e
   obtain ⟨S, e1, e2, e3, e4⟩ := h.toks j n hj
   refine ⟨S, by unfold upd; rw [if_neg (hne j S e1)]; exact e1, e2, e3, fun hlt => ?_⟩
   obtain ⟨blk, f1, f2, f3, f4, f5⟩ := e4 hlt
   refine ⟨blk, f1, f2, f3, ?_, f5⟩
   intro o ho hx
   rcases hC' _ _ hx with y | y
   ·exact f4 o ho y
   ·rw [f2] at y
    simp at y
    exact hne j S e1 y
 ·intro j S hj
  simp only [getT]
  split
  ·rfl
  ·rename_i e
   unfold upd at hj
   rw [if_neg (fun x => e x.symm)] at hj
   exact h.tdom j S hj
theorem Rel.addOwn (h : Rel N C0 w0 σ a w C m tk own) {nb : Nat} (hnone : own nb = none) (hlt : nb < w.heap.size) (hge : w0.heap.size ≤ nb) (x : Nat ⊕ Nat) :
  Rel N C0 w0 σ a w C m tk (upd own nb (some x)) := by
 have hown : ∀ blk y, own blk = some y → upd own nb (some x) blk = some y := by
  intro blk y hy
  unfold upd
  rw [if_neg (fun e => by rw [e, hnone] at hy; simp at hy)]
  exact hy
 refine { gf := h.gf, below := h.below, c0 := h.c0, cnew := h.cnew, cval := h.cval, nc := h.nc, ext := h.ext, size := h.size, slots := h.slots, boxes := ?_, mdom := h.mdom, toks := ?_, tdom := h.tdom, owned := ?_, owns := ?_ }
 ·intro b bx hb
  obtain ⟨blk, e1, e2⟩ := h.boxes b bx hb
  refine ⟨blk, e1, ?_⟩
  unfold BoxOK at e2 ⊢
  cases hf : bx.frz with
  | true => simp only [hf] at e2 ⊢; exact e2
  | false =>
   simp only [hf] at e2 ⊢
   rcases e2 with e2 | e2
   ·exact .inl e2
   exact .inr ⟨hown _ _ e2.1, e2.2⟩
 ·intro k n hk
  obtain ⟨T, e1, e2, e3, e4⟩ := h.toks k n hk
  refine ⟨T, e1, e2, e3, fun hl => ?_⟩
  obtain ⟨blk, f1, f2, f3⟩ := e4 hl
  exact ⟨blk, f1, hown _ _ f2, f3⟩
 ·intro blk y hy
  unfold upd at hy
  split at hy
  ·rename_i e; subst e; exact hlt
  ·exact h.owned _ _ hy
 ·intro blk y hy
  unfold upd at hy
  split at hy
  ·rename_i e; subst e; exact hge
  ·exact h.owns _ _ hy
theorem Rel.setSpare (h : Rel N C0 w0 σ a w C m tk own) {blk k : Nat} (ho : own blk = some (.inr k)) {vs vs' : Array Value} {ty : TypeId} (hb : w.heap[blk]? = some (.cells vs ty (0, 0))) (hn : vs'.size = vs.size)
  (hsame : ∀ o, C blk o → vs'[o]? = vs[o]?) : Rel N C0 w0 σ a (w.setRow blk vs') C m tk own := by
 have hs : Same C w (w.setRow blk vs') := by
  refine ⟨?_, cw_setRow hb hn⟩
  intro b o hx
  by_cases e : b = blk
  ·subst e
   simp only [World.cell?, setRow_heap w b vs vs' ty (0, 0) hb, hb]
   simp [hsame o hx]
  ·simp only [World.cell?]
   rw [setRow_other w blk b vs' e]
 refine { gf := h.gf, below := ?_, c0 := h.c0, cnew := h.cnew, cval := ?_, nc := h.nc.mono (nc_setRow hb), ext := fun p hp t => (h.ext p hp t).mono (fun _ _ x => x) hs, size := h.size, slots := fun t => (h.slots t).mono (fun _ _ x => x) hs, boxes := ?_, mdom := h.mdom, toks := ?_, tdom := h.tdom, owned := ?_, owns := h.owns }
 ·exact h.below.trans ⟨rfl, rfl, rfl, by simp, fun j hj => setRow_other w blk j vs' (by have := h.owns _ _ ho; omega)⟩
 ·intro x o hx; simpa using h.cval x o hx
 ·intro b bx hbx
  obtain ⟨blk', e1, e2⟩ := h.boxes b bx hbx
  refine ⟨blk', e1, ?_⟩
  unfold BoxOK at e2 ⊢
  cases hf : bx.frz with
  | true =>
   simp only [hf] at e2 ⊢
   intro j av hj
   obtain ⟨f1, f2, v, f3, f4⟩ := e2 j av hj
   exact ⟨f1, f2, v, by rw [hs.1 _ _ f1]; exact f3, f4.mono (fun _ _ x => x) hs⟩
  | false =>
   simp only [hf] at e2 ⊢
   rcases e2 with e2 | e2
   ·exact .inl e2
   obtain ⟨f1, f2, f3, vs2, ty', f4, f5, f6⟩ := e2
   have hbb : blk' ≠ blk := by
    intro e
    rw [e, ho] at f1
    simp at f1
   refine .inr ⟨f1, f2, f3, vs2, ty', by rw [setRow_other w blk blk' vs' hbb]; exact f4, f5, fun j av hj => ?_⟩
   obtain ⟨g1, g2, g3⟩ := f6 j av hj
   exact ⟨g1, g2, g3.mono (fun _ _ x => x) hs⟩
 ·intro j n hj
  obtain ⟨T, e1, e2, e3, e4⟩ := h.toks j n hj
  refine ⟨T, e1, e2, e3, fun hlt => ?_⟩
  obtain ⟨blk', f1, f2, f3, f4, vs2, ty', f5, f6⟩ := e4 hlt
  by_cases e : blk' = blk
  ·subst e
   rw [hb] at f5
   injection f5 with f5
   injection f5 with g1 g2 g3
   subst g1
   exact ⟨blk', f1, f2, f3, f4, vs', ty, setRow_heap w blk' _ _ ty (0, 0) hb, by omega⟩
  ·exact ⟨blk', f1, f2, f3, f4, vs2, ty', by rw [setRow_other w blk blk' vs' e]; exact f5, f6⟩
 ·intro blk' x hx
  simpa using h.owned _ _ hx
structure FR (C : Nat → Nat → Prop) (w : World) (sz : Nat) (es : List AV) (vs : List Value) : Prop where
 len : vs.length = es.length * sz
 hsz : ∀ (i : Nat) (e : AV), es[i]? = some e → e.cells.length = sz
 hk : ∀ (i : Nat) (e : AV), es[i]? = some e → e.isElem = true
 hka : ∀ (i : Nat) (e : AV), es[i]? = some e → ∀ (j : Nat) (c : AV), e.cells[j]? = some c → c.isCell = true
 hr : ∀ (i : Nat) (e : AV), es[i]? = some e → ∀ (j : Nat) (c : AV), e.cells[j]? = some c → Rep0 C w (vs[i * sz + j]?.getD undef) c
theorem idx_lt {i n sz j : Nat} (hi : i < n) (hj : j < sz) : i * sz + j < n * sz := by
 have : (i + 1) * sz ≤ n * sz := Nat.mul_le_mul_right _ (by omega)
 rw [Nat.add_mul, Nat.one_mul] at this
 omega
theorem FR.append {sz : Nat} {es fs : List AV} {vs us : List Value} (h : FR C w sz es vs) (k : FR C w sz fs us) : FR C w sz (es ++ fs) (vs ++ us) := by
 have hsplit : ∀ (i : Nat) (e : AV), (es ++ fs)[i]? = some e → (i < es.length ∧ es[i]? = some e) ∨ (es.length ≤ i ∧ fs[i - es.length]? = some e) := by
  intro i e he
  rcases Nat.lt_or_ge i es.length with hl | hl
  ·rw [List.getElem?_append_left hl] at he; exact .inl ⟨hl, he⟩
  ·rw [List.getElem?_append_right hl] at he; exact .inr ⟨hl, he⟩
 refine ⟨by simp [h.len, k.len, Nat.add_mul], fun i e he => ?_, fun i e he => ?_, fun i e he => ?_, fun i e he j c hj => ?_⟩
 ·rcases hsplit i e he with ⟨_, x⟩ | ⟨_, x⟩
  ·exact h.hsz _ _ x
  ·exact k.hsz _ _ x
 ·rcases hsplit i e he with ⟨_, x⟩ | ⟨_, x⟩
  ·exact h.hk _ _ x
  ·exact k.hk _ _ x
 ·rcases hsplit i e he with ⟨_, x⟩ | ⟨_, x⟩
  ·exact h.hka _ _ x
  ·exact k.hka _ _ x
 ·rcases hsplit i e he with ⟨hl, x⟩ | ⟨hl, x⟩
  ·have hjl : j < sz := by rw [← h.hsz _ _ x]; exact (List.getElem?_eq_some_iff.1 hj).1
   have := idx_lt hl hjl
   rw [List.getElem?_append_left (by rw [h.len]; exact this)]
   exact h.hr _ _ x j c hj
  ·have e1 : i * sz + j = vs.length + ((i - es.length) * sz + j) := by
    rw [h.len, ← Nat.add_assoc, ← Nat.add_mul]
    congr 2
    omega
   rw [e1, List.getElem?_append_right (by omega), Nat.add_sub_cancel_left]
   exact k.hr _ _ x j c hj
theorem first_rep {v : Value} {sz : Nat} {es : List AV} (h : Rep0 C w v (.sl sz es .sh)) (hz : sz ≠ 0) :
  ∃ vs, FR C w sz es vs ∧ (∀ u ∈ vs, u.oneCell' = true) ∧ ∀ w', Same C w w' → (Builtin.firstCells sz es.length v).run P w' = .ok vs.toArray w' := by
 rcases rep0_sl_inv h with ⟨rfl, b, cap, rfl⟩ | ⟨blk, o, cap, f, rfl, hcap, hrow⟩
 ·refine ⟨[], ⟨by simp, fun i e he => by simp at he, fun i e he => by simp at he, fun i e he => by simp at he, fun i e he => by simp at he⟩, by simp, fun w' _ => ?_⟩
  cases b <;> simp [Builtin.firstCells, loadCells, loadCellsFrom]
 ·have hdiv : ∀ i j, j < sz → (i * sz + j) / sz = i ∧ (i * sz + j) % sz = j := by
   intro i j hj
   rw [Nat.mul_comm]
   exact ⟨by rw [Nat.mul_add_div (by omega), Nat.div_eq_of_lt hj, Nat.add_zero], by rw [Nat.mul_add_mod, Nat.mod_eq_of_lt hj]⟩
  have hget : ∀ i j, i < es.length → j < sz → ((List.range (es.length * sz)).map fun k => f (k / sz) (k % sz))[i * sz + j]? = some (f i j) := by
   intro i j hi hj
   have := idx_lt hi hj
   simp [this, (hdiv i j hj).1, (hdiv i j hj).2]
  have hfr : FR C w sz es ((List.range (es.length * sz)).map fun k => f (k / sz) (k % sz)) := by
   refine ⟨by simp, hrow.hsz, hrow.hk, hrow.hka, fun i e he j c hj => ?_⟩
   have hi := (List.getElem?_eq_some_iff.1 he).1
   have hjl : j < sz := by rw [← hrow.hsz _ _ he]; exact (List.getElem?_eq_some_iff.1 hj).1
   rw [hget i j hi hjl]
   exact hrow.hr _ _ he j c hj
  have hkk : ∀ k, k < es.length * sz → k / sz < es.length ∧ k % sz < sz ∧ (k / sz) * sz + k % sz = k := by
   intro k hk
   refine ⟨(Nat.div_lt_iff_lt_mul (by omega)).2 hk, Nat.mod_lt _ (by omega), by rw [Nat.mul_comm]; exact Nat.div_add_mod k sz⟩
  refine ⟨_, hfr, ?_, fun w' hs => ?_⟩
  ·intro u hu
   simp only [List.mem_map, List.mem_range] at hu
   obtain ⟨k, hk, rfl⟩ := hu
   obtain ⟨h1, h2, h3⟩ := hkk k hk
   have hei : es[k / sz]? = some es[k / sz] := by simp [h1]
   have hlt : k % sz < es[k / sz].cells.length := by rw [hrow.hsz _ _ hei]; exact h2
   have hcj : es[k / sz].cells[k % sz]? = some es[k / sz].cells[k % sz] := by simp [hlt]
   exact (hrow.hr _ _ hei _ _ hcj).oneCell (hrow.hka _ _ hei _ _ hcj)
  ·simp only [Builtin.firstCells]
   rw [run_loadCells (P := P) w' _ (es.length * sz) (fun k => f (k / sz) (k % sz)) (fun k hk => ?_)]
   obtain ⟨h1, h2, h3⟩ := hkk k hk
   rw [add_none]
   have h4 := hrow.hc (k / sz) (k % sz) h1 h2
   have h5 := hrow.hv (k / sz) (k % sz) h1 h2
   rw [Nat.add_assoc, h3] at h4 h5
   rw [hs.1 _ _ h4]
   exact h5
theorem FR.row {C' : Nat → Nat → Prop} {w' : World} {sz blk : Nat} {es : List AV} {vs : List Value} (h : FR C w sz es vs) (hC : ∀ x o, C x o → C' x o) (hs : Same C w w')
  (hc : ∀ k, k < es.length * sz → C' blk k) (hcell : ∀ k, k < es.length * sz → w'.cell? ⟨blk, k, none⟩ = vs[k]?) : Row C' w' blk 0 sz es (fun i j => vs[i * sz + j]?.getD undef) := by
 refine ⟨h.hsz, h.hk, fun i j hi hj => ?_, fun i j hi hj => ?_, h.hka, fun i e he j c hj => (h.hr i e he j c hj).mono hC hs⟩
 ·rw [Nat.zero_add]
  exact hc _ (idx_lt hi hj)
 ·rw [Nat.zero_add, hcell _ (idx_lt hi hj)]
  have : i * sz + j < vs.length := by rw [h.len]; exact idx_lt hi hj
  simp [this]
end
end Go.V

set_option linter.unusedSimpArgs false
set_option linter.unusedVariables false
set_option linter.unnecessarySimpa false
namespace Go.V
open Go Go.RowKit
section
variable (P : Program)
def partsOK : Nat → List (Nat × Operand) → List VO → Bool
 | _, [], [] => true
 | k, (i, x) :: ps, y :: ys => i == k && opd x y && partsOK (k + 1) ps ys
 | _, _, _ => false
def fldsOK (t : TypeId) : List (Nat × Operand) → List (Nat × Nat × VO) → Bool
 | [], [] => true
 | (i, x) :: ps, (off, sz, y) :: ys => (match fldOf P t i with
  | some (o, ft) => o == off && szOf P ft == some sz
  | none => false) && opd x y && fldsOK t ps ys
 | _, _ => false
def cellsOK (vs : List Value) (z : List AV) : Bool := constCs vs z && z.all (fun c => c.isCell)
def structOK (t : TypeId) : Bool :=
 match P.underlying t with
 | some (.struct fs) => fs.toList.all fun f => (szOf P f.type).isSome
 | _ => false
def elsOK (s : Nat) : List (Nat × Operand) → List (Nat × Nat × VO) → Bool
 | [], [] => true
 | (i, x) :: ps, (off, sz, y) :: ys => off == i * s && sz == s && opd x y && elsOK s ps ys
 | _, _ => false
def arrOK (t : TypeId) (ps : List (Nat × Operand)) (ys : List (Nat × Nat × VO)) : Bool :=
 match arOf P t with
 | some (_, e) => (match szOf P e with
  | some s => elsOK s ps ys
  | none => false)
 | none => false
def zeroK (sz : Nat) (vs : List Value) : VO → Bool
 | .k (.agg z) => cellsOK vs z && z.length == sz && z.all fun c => match c with | .int _ | .bool _ => true | _ => false
 | .k (.int n) => sz == 1 && cellsOK vs [.int n]
 | _ => false
def mop2 (o : Op) (v : VOp) : Bool :=
 match o, v with
 | .assign x, .nils _ _ => opd x (.k (.sl 0 [] .full))
 | .alloc e, .alloc _ z => (match P.info? e with
  | some i => (match i.zero with
   | some zv => cellsOK zv.cells.toList z
   | none => false)
  | none => false)
 | .box _ x, .box _ _ y => opd x y
 | .store t p x, .store n p' x' _ => opd p p' && opd x x' && szOf P t == some n && n != 0
 | .assign x, .nilsG _ _ _ _ => opd x (.k (.sl 0 [] .full))
 | .load t x, .loadW n y _ => opd x y && szOf P t == some n && aggOf P t == some true
 | .buildSlice t n parts, .bsliceW sz xs => partsOK 0 parts.toList xs && xs.length == n && decide (n * sz ≤ 16777216) && sz != 0 && (match elOf P t with
  | some e => szOf P e == some sz && (match P.info? e with
   | some i => i.zero.isSome
   | none => false)
  | none => false)
 | .build t parts, .buildW z ps => fldsOK P t parts.toList ps && structOK P t && (match P.info? t with
  | some i => (match i.zero with
   | some zv => constA.constCs0 zv.cells.toList z
   | none => false)
  | none => false)
 | .call c, .appG _ _ sz by_ _ x y => (match c.callee with | .builtin .append => true | _ => false) && opds c.args.toList [x, y] && (match c.argTypes.toList with
  | [t, t'] => (elOf P t').isSome && (match elOf P t with
   | some e => szOf P e == some sz && byOf P e == some by_ && decide (by_ ≤ 16384) && sz != 0 && (match P.info? e with
    | some i => (match i.zero with
     | some zv => zv.cells.size == sz
     | none => false)
    | none => false)
   | none => false)
  | _ => false)
 | .load t x, .load n ag y _ => opd x y && szOf P t == some n && aggOf P t == some ag && (ag || n == 1)
 | .makeSlice t l c, .makes _ sz by_ ag z x => opd l x && opd c x && (match elOf P t with
  | some e => szOf P e == some sz && byOf P e == some by_ && decide (by_ ≤ 16384) && aggOf P e == some ag && sz != 0 && (ag || sz == 1) && (match P.info? e with
   | some i => (match i.zero with
    | some zv => cellsOK zv.cells.toList z && z.length == sz
    | none => false)
   | none => false)
  | none => false)
 | .makeSlice t l c, .make0 _ sz by_ x => opd l (.k (.int 0)) && opd c x && (match elOf P t with
  | some e => szOf P e == some sz && byOf P e == some by_ && decide (by_ ≤ 16384) && sz != 0 && (match P.info? e with
   | some i => i.zero.isSome
   | none => false)
  | none => false)
 | .makeSlice t l c, .bslice sz xs => opd l (.k (.int xs.length)) && opd c (.k (.int xs.length)) && decide (xs.length ≤ 65536) && (match elOf P t with
  | some e => szOf P e == some sz && decide (0 < sz) && (match P.info? e with
   | some i => decide (i.bytes ≤ 16384) && (match i.zero with
    | some zv => xs.all (zeroK sz zv.cells.toList)
    | none => false)
   | none => false)
  | none => false)
 | .buildSlice t n parts, .bslice sz xs => partsOK 0 parts.toList xs && xs.length == n && decide (n * sz ≤ 16777216) && sz != 0 && (match elOf P t with
  | some e => szOf P e == some sz && (match P.info? e with
   | some i => i.zero.isSome
   | none => false)
  | none => false)
 | .build t parts, .build z ps => ((fldsOK P t parts.toList ps && structOK P t) || arrOK P t parts.toList ps) && (match P.info? t with
  | some i => (match i.zero with
   | some zv => constA.constCs0 zv.cells.toList z
   | none => false)
  | none => false)
 | .makeFunc fn first caps, .mkm f xs => (match fn with | .func g => g == f | _ => false) && caps.size == 0 && opds first.toList xs
 | .makeFunc fn first caps, .mkf f xs => (match fn with | .func g => g == f | _ => false) && first.size == 0 && opds caps.toList xs
 | .makeFunc fn first caps, .mkw f xs => (match fn with | .func g => g == f | _ => false) && first.size == 0 && opds caps.toList xs
 | .call c, .app _ sz by_ x y => (match c.callee with | .builtin .append => true | _ => false) && opds c.args.toList [x, y] && (match c.argTypes.toList with
  | [t, t'] => (elOf P t').isSome && (match elOf P t with
   | some e => szOf P e == some sz && byOf P e == some by_ && decide (by_ ≤ 16384) && sz != 0 && (match P.info? e with
    | some i => (match i.zero with
     | some zv => zv.cells.size == sz
     | none => false)
    | none => false)
   | none => false)
  | _ => false)
 | _, _ => false
end
section
variable {P : Program}
variable {N : Cfg} {C0 : Nat → Nat → Prop} {w0 : World} {σ : AS} {a : Act} {w : World} {C : Nat → Nat → Prop} {m : Nat → Option Nat} {tk : Nat → Option TK} {own : Nat → Option (Nat ⊕ Nat)}
def Stepped (P : Program) (N : Cfg) (C0 : Nat → Nat → Prop) (w0 : World) (o : Oper) (a : Act) (w : World) (av : AV) (σ' : AS) : Prop :=
 ∃ v w' C' m' tk' own', Ex1 P o a w v w' ∧ Rel N C0 w0 σ' a w' C' m' tk' own' ∧ Rep C' w' m' tk' v av
theorem Quiet.stepped {o : Oper} {av : AV} (h : Rel N C0 w0 σ a w C m tk own) (hq : Quiet P o a w C m tk av) : Stepped P N C0 w0 o a w av σ :=
 let ⟨v, h1, h2⟩ := hq
 ⟨v, w, C, m, tk, own, h1, h, h2⟩
theorem constCs_spec : ∀ (vs : List Value) (cs : List AV), cellsOK vs cs = true →
  vs.length = cs.length ∧ ∀ (j : Nat) (c : AV), cs[j]? = some c → c.isCell = true ∧ (vs[j]?.getD undef).oneCell' = true ∧ ∀ {C w m tk}, Rep C w m tk (vs[j]?.getD undef) c
 | [], [], _ => ⟨rfl, fun j c h => by simp at h⟩
 | [], _ :: _, h => by simp [cellsOK, constCs] at h
 | _ :: _, [], h => by simp [cellsOK, constCs] at h
 | v :: vs, a :: cs, h => by
  simp only [cellsOK, constCs, Bool.and_eq_true, List.all_cons] at h
  obtain ⟨⟨h1, h2⟩, h3, h4⟩ := h
  obtain ⟨ih1, ih2⟩ := constCs_spec vs cs (by simp only [cellsOK, Bool.and_eq_true]; exact ⟨h2, h4⟩)
  refine ⟨by simp [ih1], fun j c hj => ?_⟩
  cases j with
  | succ j => simpa using ih2 j c (by simpa using hj)
  | zero =>
   simp only [List.getElem?_cons_zero, Option.some.injEq] at hj
   subst hj
   simp only [List.getElem?_cons_zero, Option.getD_some]
   refine ⟨h3, ?_, constC_rep h1⟩
   unfold constC at h1
   split at h1 <;> first | rfl | (simp at h1)
theorem s_nils {o : Oper} (h : Rel N C0 w0 σ a w C m tk own) {k sz : Nat} (hm : mop2 P o.op (.nils k sz) = true) (hc : vcond (.nils k sz) σ) : Stepped P N C0 w0 o a w (vval (.nils k sz) σ) (vnext (.nils k sz) σ) := by
 cases ho : o.op <;> rw [ho] at hm <;> first | (simp [mop2] at hm; done) | skip
 rename_i x
 simp only [mop2] at hm
 obtain ⟨h1, b, h2⟩ := opd_rep h hm
 refine ⟨a.eval x, w, C, m, _, own, .inl (by simp [execOp, ho]), h.addTok hc (T' := ⟨b, 0, 0, sz⟩) (C' := C) (fun _ _ z => z) (fun _ _ z => .inl z) ⟨Nat.le_refl _, fun hlt => by simp at hlt⟩, ?_, ⟨b, 0, 0, sz⟩, by simp [upd], rfl, Nat.le_refl _, fun _ => ?_⟩
 ·rw [h2]; exact .sl0 _ _ _
 ·rw [h2]; rfl
theorem s_alloc {o : Oper} (h : Rel N C0 w0 σ a w C m tk own) {b : Nat} {z : List AV} (hm : mop2 P o.op (.alloc b z) = true) (hc : vcond (.alloc b z) σ) : Stepped P N C0 w0 o a w (vval (.alloc b z) σ) (vnext (.alloc b z) σ) := by
 cases ho : o.op <;> rw [ho] at hm <;> first | (simp [mop2] at hm; done) | skip
 rename_i e
 simp only [mop2] at hm
 split at hm <;> first | (simp at hm; done) | skip
 rename_i i hi
 split at hm <;> first | (simp at hm; done) | skip
 rename_i zv hz
 obtain ⟨h1, h2⟩ := constCs_spec _ _ hm
 have hr : (execOp a.eval o).run P w = .ok (.value (.pointer (some ⟨w.heap.size, 0, none⟩))) (w.alloc (.cells zv.cells e)) := by
  simp [execOp, ho, Instr.alloc, zeroValue, typeInfo, hi, hz, newVar, newRow]
 refine ⟨_, _, C, _, _, _, .inl hr, h.addBox hc (ty := e) (vs := zv.cells) (cells := z) (by simpa using h1) (fun j av hj => ?_), w.heap.size, by simp [upd], rfl⟩
 have := h2 j av hj
 simp only [Array.getElem?_toList] at this
 exact ⟨this.1, this.2.1, this.2.2⟩
theorem s_box {o : Oper} (h : Rel N C0 w0 σ a w C m tk own) {b n : Nat} {x : VO} (hm : mop2 P o.op (.box b n x) = true) (hc : vcond (.box b n x) σ) : Stepped P N C0 w0 o a w (vval (.box b n x) σ) (vnext (.box b n x) σ) := by
 cases ho : o.op <;> rw [ho] at hm <;> first | (simp [mop2] at hm; done) | skip
 rename_i e x0
 simp only [mop2] at hm
 have r1 := opd_rep h hm
 obtain ⟨h1, h2⟩ := rep_cells h r1 hc.2.1
 have hr : (execOp a.eval o).run P w = .ok (.value (.pointer (some ⟨w.heap.size, 0, none⟩))) (w.alloc (.cells (a.eval x0).cells e)) := by
  simp [execOp, ho, Instr.box, newVar, newRow]
 exact ⟨_, _, C, _, _, _, .inl hr, h.addBox hc.1 h1 h2, w.heap.size, by simp [upd], rfl⟩
theorem splice_get (l us : List Value) (off j : Nat) (h : off + us.length ≤ l.length) :
  (l.take off ++ us ++ l.drop (off + us.length))[j]? = if off ≤ j ∧ j < off + us.length then us[j - off]? else l[j]? := by
 have ht : (l.take off).length = off := by simp; omega
 by_cases h1 : j < off
 ·rw [if_neg (by omega), List.append_assoc, List.getElem?_append_left (by omega), List.getElem?_take, if_pos h1]
 ·by_cases h2 : j < off + us.length
  ·rw [if_pos ⟨by omega, h2⟩, List.append_assoc, List.getElem?_append_right (by omega), ht, List.getElem?_append_left (by omega)]
  ·rw [if_neg (by omega), List.getElem?_append_right (by simp; omega), List.getElem?_drop]
   congr 1
   simp
   omega
theorem s_store {o : Oper} (h : Rel N C0 w0 σ a w C m tk own) {n : Nat} {p x : VO} {ob : Option Nat} (hm : mop2 P o.op (.store n p x ob) = true) (hc : vcond (.store n p x ob) σ) : Stepped P N C0 w0 o a w (vval (.store n p x ob) σ) (vnext (.store n p x ob) σ) := by
 cases ho : o.op <;> rw [ho] at hm <;> first | (simp [mop2] at hm; done) | skip
 rename_i t p0 x0
 simp only [mop2, Bool.and_eq_true, beq_iff_eq] at hm
 obtain ⟨⟨⟨h1, h2⟩, hs⟩, hn0⟩ := hm
 have hn0' : n ≠ 0 := by simpa using hn0
 have r1 := opd_rep h h1
 have r2 := opd_rep h h2
 simp only [vcond] at hc
 simp only [vval, vnext]
 generalize ev σ p = u at *
 generalize ev σ x = v at *
 cases u <;> first | exact hc.elim | skip
 rename_i b off
 cases hg : getB σ.hp b with
 | none => simp [hg] at hc
 | some bx =>
  obtain ⟨cells, fz⟩ := bx
  simp only [hg] at hc ⊢
  obtain ⟨_, rfl, hoff, hok, hl⟩ := hc
  obtain ⟨blk, hm1, hv⟩ := r1
  obtain ⟨blk', hm2, hbox⟩ := h.boxes b _ hg
  rw [hm1] at hm2
  obtain rfl : blk = blk' := by simpa using hm2
  have hbox' := hbox
  have hcne : cells ≠ [] := by rintro rfl; simp at hoff; omega
  simp only [BoxOK] at hbox
  rcases hbox with ⟨hce, _⟩ | hbox
  ·exact absurd hce hcne
  obtain ⟨c1, c2, c3, vs, ty, c4, c5, c6⟩ := hbox
  obtain ⟨k1, k2⟩ := rep_cells h r2 hok
  have hlen : (a.eval x0).cells.toList.length = n := by simp only [Array.length_toList]; omega
  have hfit : off + (a.eval x0).cells.toList.length ≤ vs.toList.length := by simp only [Array.length_toList] at hlen ⊢; omega
  have hone : ∀ u ∈ (a.eval x0).cells.toList, u.oneCell' = true := by
   intro u hu
   obtain ⟨j, hj, rfl⟩ := List.getElem_of_mem hu
   have hj' : j < v.cells.length := by simp only [Array.length_toList] at hj; omega
   have := (k2 j v.cells[j] (by simp [hj'])).2.1
   simp only [Array.length_toList] at hj
   simpa [hj] using this
  have hst := run_storeCells_at P blk off ty (a.eval x0).cells.toList 0 vs w c4 (by simp only [Array.length_toList] at hfit ⊢; omega) hone
  simp only [Nat.add_zero, hlen] at hst
  have hr : (execOp a.eval o).run P w = .ok .skip (w.setRow blk (vs.toList.take off ++ (a.eval x0).cells.toList ++ vs.toList.drop (off + n)).toArray) := by
   have hsz : (a.eval x0).cells.size = n := by simpa using hlen
   simp only [execOp, ho, hv, Instr.storeAt, Instr.sureAddr, storeVar, Sem.run_bind, Sem.run_pure, Result.andThen_ok, run_szOf hs, hsz, ne_eq, not_true_eq_false, if_false, hst]
  refine ⟨undef, _, C, m, tk, own, .inr ⟨hr, rfl⟩, h.setBox hg hm1 (cells' := setAt cells off v.cells) hcne ?_ ?_ ?_, trivial⟩
  ·intro vs2 ty2 h2
   rw [c4] at h2
   injection h2 with h2
   injection h2 with h2 _ _
   subst h2
   simp only [List.size_toArray, List.length_append, List.length_take, List.length_drop, Array.length_toList] at hlen ⊢
   omega
  ·rw [setAt_length _ _ _ (by omega)]
   simp only [List.size_toArray, List.length_append, List.length_take, List.length_drop, Array.length_toList] at hlen ⊢
   omega
  ·intro j av hj
   rw [setAt_get _ _ _ _ (by omega)] at hj
   have hsp := splice_get vs.toList (a.eval x0).cells.toList off j hfit
   rw [hlen] at hsp
   simp only [List.getElem?_toArray, hsp]
   by_cases hjj : off ≤ j ∧ j < off + n
   ·rw [if_pos (by omega)] at hj
    rw [if_pos hjj]
    have := k2 _ _ hj
    simpa using this
   ·rw [if_neg (by omega)] at hj
    rw [if_neg hjj]
    have := c6 _ _ hj
    simpa using this
theorem box_cell (h : Rel N C0 w0 σ a w C m tk own) {b blk : Nat} {bx : BX} (hg : getB σ.hp b = some bx) (hm1 : m b = some blk) {j : Nat} {av : AV} (hj : bx.cells[j]? = some av) :
  av.isCell = true ∧ ∃ v, w.cell? ⟨blk, j, none⟩ = some v ∧ v.oneCell' = true ∧ Rep C w m tk v av := by
 obtain ⟨blk', hm2, hbox⟩ := h.boxes b _ hg
 rw [hm1] at hm2
 obtain rfl : blk = blk' := by simpa using hm2
 unfold BoxOK at hbox
 cases hf : bx.frz with
 | true =>
  simp only [hf] at hbox
  obtain ⟨c1, c2, v, c3, c4⟩ := hbox j av hj
  exact ⟨c2, v, c3, c4.oneCell c2, c4.toRep⟩
 | false =>
  simp only [hf] at hbox
  rcases hbox with ⟨hce, _⟩ | hbox
  ·rw [hce] at hj; simp at hj
  obtain ⟨c1, c2, c3, vs, ty, c4, c5, c6⟩ := hbox
  obtain ⟨d1, d2, d3⟩ := c6 j av hj
  have hlt := (List.getElem?_eq_some_iff.1 hj).1
  refine ⟨d1, _, ?_, d2, d3⟩
  have : j < vs.size := by omega
  simp [World.cell?, c4, this]
theorem strip_cell {σ' : AS} {C' : Nat → Nat → Prop} {own' : Nat → Option (Nat ⊕ Nat)} (h' : Rel N C0 w0 σ' a w C' m tk own') {v : Value} {av : AV} (hk : av.isCell = true) (ho : v.oneCell' = true) (hr : Rep C' w m tk v av) :
  (strip σ'.hp av).isCell = true ∧ Rep0 C' w v (strip σ'.hp av) := by
 refine ⟨strip_isCell hk, ?_⟩
 by_cases hu : strip σ'.hp av = .und
 ·rw [hu]; exact .und _ ho
 ·exact strip_rep h' hr hu
theorem s_load {o : Oper} (h : Rel N C0 w0 σ a w C m tk own) {n : Nat} {ag : Bool} {x : VO} {avs : List Nat} (hm : mop2 P o.op (.load n ag x avs) = true) (hc : vcond (.load n ag x avs) σ) : Stepped P N C0 w0 o a w (vval (.load n ag x avs) σ) (vnext (.load n ag x avs) σ) := by
 by_cases hq : ∀ b off, ev σ x = .ptr b off → ag = false
 ·have hm' : mop P o.op (.load n ag x avs) = true := by
   cases ho : o.op <;> rw [ho] at hm <;> first | (simp [mop2] at hm; done) | skip
   exact hm
  have := (q_load h hm' hc hq).stepped h
  have hn : vnext (.load n ag x avs) σ = σ := by
   simp only [vnext]
   split
   ·rename_i b off he
    rw [hq b off he]
    split <;> rfl
   ·rfl
  rw [hn]
  exact this
 ·have hex : ∃ b off, ev σ x = .ptr b off ∧ ag = true := by
   apply Classical.byContradiction
   intro hno
   apply hq
   intro b off he
   cases ag with
   | false => rfl
   | true => exact absurd ⟨b, off, he, rfl⟩ hno
  obtain ⟨b, off, he, rfl⟩ := hex
  cases ho : o.op <;> rw [ho] at hm <;> first | (simp [mop2] at hm; done) | skip
  rename_i t x0
  simp only [mop2, Bool.and_eq_true] at hm
  obtain ⟨⟨⟨h1, hs⟩, ha⟩, hag⟩ := hm
  have hs' : szOf P t = some n := by simpa using hs
  have ha' : aggOf P t = some true := by simpa using ha
  have r1 := opd_rep h h1
  rw [he] at r1
  obtain ⟨blk, hm1, hv⟩ := r1
  simp only [vcond, he] at hc
  simp only [vval, vnext, he]
  cases hg : getB σ.hp b with
  | none => simp [hg] at hc
  | some bx =>
   simp only [hg, if_true] at hc ⊢
   obtain ⟨C', own', h', hC⟩ := h.frzL (bids ((bx.cells.drop off).take n))
   have hcell : ∀ j, j < n → w.cell? ((⟨blk, off, none⟩ : Addr).add j) = some ((w.cell? ⟨blk, off + j, none⟩).getD undef) := by
    intro j hj
    have hlt : off + j < bx.cells.length := by omega
    obtain ⟨_, v, hv, _⟩ := box_cell h hg hm1 (j := off + j) (av := bx.cells[off + j]) (by simp [hlt])
    rw [add_none, hv]
    rfl
   have hl := run_loadCells (P := P) w ⟨blk, off, none⟩ n (fun j => (w.cell? ⟨blk, off + j, none⟩).getD undef) hcell
   refine ⟨_, w, C', m, tk, own', .inl (by simp [execOp, ho, hv, Instr.loadAt, Instr.sureAddr, loadVar, run_aggOf ha', run_szOf hs', hl]; rfl), h', ?_⟩
   have key : ∀ (j : Nat) (c : AV), ((((bx.cells.drop off).take n)).map (strip (frzS (bids ((bx.cells.drop off).take n)) σ).hp))[j]? = some c → c.isCell = true ∧ j < n ∧ Rep0 C' w ((w.cell? ⟨blk, off + j, none⟩).getD undef) c := by
    intro j c hj
    rw [List.getElem?_map] at hj
    obtain ⟨c0, hj0, rfl⟩ := Option.map_eq_some_iff.1 hj
    rw [List.getElem?_take] at hj0
    split at hj0
    ·rename_i hlt
     have hj1 : bx.cells[off + j]? = some c0 := by simpa using hj0
     obtain ⟨d1, v, d2, d3, d4⟩ := box_cell h hg hm1 hj1
     have := strip_cell h' d1 d3 (d4.mono hC (Same.refl _ _))
     rw [d2]
     exact ⟨this.1, hlt, this.2⟩
    ·simp at hj0
   refine Rep0.toRep (.agg _ _ ?_ (fun j c hj => (key j c hj).1) (fun j c hj => ?_))
   ·simp
    omega
   ·obtain ⟨_, k2, k3⟩ := key j c hj
    simpa [k2] using k3
theorem zeros_len (z : List AV) (n : Nat) : (zeros z n).length = n * z.length := by
 induction n with
 | zero => simp [zeros]
 | succ n ih => simp [zeros, ih, Nat.add_mul]; omega
theorem zeros_get (z : List AV) (n k : Nat) (hk : k < n * z.length) : (zeros z n)[k]? = z[k % z.length]? := by
 induction n generalizing k with
 | zero => simp at hk
 | succ n ih =>
  simp only [zeros]
  rcases Nat.lt_or_ge k z.length with hl | hl
  ·rw [List.getElem?_append_left hl, Nat.mod_eq_of_lt hl]
  ·rw [List.getElem?_append_right hl, ih _ (by rw [Nat.add_mul, Nat.one_mul] at hk; omega), Nat.mod_eq_sub_mod hl]
theorem s_makes {o : Oper} (h : Rel N C0 w0 σ a w C m tk own) {b sz by_ : Nat} {ag : Bool} {z : List AV} {x : VO} (hm : mop2 P o.op (.makes b sz by_ ag z x) = true) (hc : vcond (.makes b sz by_ ag z x) σ) : Stepped P N C0 w0 o a w (vval (.makes b sz by_ ag z x) σ) (vnext (.makes b sz by_ ag z x) σ) := by
 cases ho : o.op <;> rw [ho] at hm <;> first | (simp [mop2] at hm; done) | skip
 rename_i t l c
 simp only [mop2, Bool.and_eq_true] at hm
 obtain ⟨⟨h1, h2⟩, h3⟩ := hm
 split at h3 <;> first | (simp at h3; done) | skip
 rename_i e he
 simp only [Bool.and_eq_true, beq_iff_eq, decide_eq_true_eq] at h3
 obtain ⟨⟨⟨⟨⟨⟨hs, hby⟩, hble⟩, ha⟩, hsz0⟩, hag⟩, h4⟩ := h3
 split at h4 <;> first | (simp at h4; done) | skip
 rename_i i hi
 split at h4 <;> first | (simp at h4; done) | skip
 rename_i zv hz
 simp only [Bool.and_eq_true, beq_iff_eq] at h4
 obtain ⟨h4, hzl⟩ := h4
 have hu := elOf_spec he
 have r1 := opd_rep h h1
 have r2 := opd_rep h h2
 simp only [vcond] at hc
 simp only [vval, vnext]
 generalize ev σ x = u at *
 cases u <;> first | exact hc.elim | skip
 rename_i n
 obtain ⟨hfresh, hn0, hsm⟩ := hc
 have e1 := rep_int r1
 have e2 := rep_int r2
 have hisz : i.size = sz := by simpa [szOf, hi] using hs
 have hiby : i.bytes = by_ := by simpa [byOf, hi] using hby
 have hn32 : n ≤ 4294967296 := by unfold small at hsm; omega
 have hbytes : (i.bytes : Int) * n ≤ 281474976710656 := by
  rw [hiby]
  have h5 : (by_ : Int) * n ≤ 16384 * 4294967296 := Int.mul_le_mul (by omega) hn32 hn0 (by omega)
  omega
 have hrun := run_make (P := P) w t e i zv hu hi hz .i64 .i64 n n hn0 (Int.le_refl _) hbytes (by omega)
 obtain ⟨k1, k2⟩ := constCs_spec _ _ h4
 have hsz : sz ≠ 0 := by simpa using hsz0
 simp only [AV.toInt]
 have hzs : zv.cells.size = sz := by have : zv.cells.toList.length = z.length := k1; simp at this; omega
 refine ⟨.slice (some ⟨w.heap.size, 0, none⟩) n.toNat n.toNat, w.alloc (.cells (madeCells zv.cells (n.toNat * i.size)) e), C, _, _, _, .inl (by simp only [execOp, ho, e1, e2]; simp [hrun]), h.addBox hfresh (ty := e) (vs := madeCells zv.cells (n.toNat * i.size)) (cells := zeros z n.toNat) ?_ (fun j av hj => ?_), w.heap.size, n.toNat, by simp [upd], Nat.le_refl _, rfl⟩
 ·rw [size_madeCells, zeros_len, hisz, hzl]
 ·have hlt : j < n.toNat * z.length := by rw [← zeros_len]; exact (List.getElem?_eq_some_iff.1 hj).1
  rw [zeros_get _ _ _ hlt] at hj
  have := k2 _ _ hj
  simp only [Array.getElem?_toList] at this
  have hlt2 : j % z.length < zv.cells.size := by rw [hzs, hzl]; exact Nat.mod_lt _ (by omega)
  have hget : (madeCells zv.cells (n.toNat * i.size))[j]?.getD undef = zv.cells[j % z.length]?.getD undef := by
   unfold madeCells
   rw [hisz, ← hzl]
   have hr : (Array.range (n.toNat * z.length))[j]? = some j := by simp [hlt]
   have hzz : zv.cells.size = z.length := by omega
   rw [Array.getElem?_map, hr]
   simp [hzz] at hlt2 ⊢
   simp [hzz, hlt2]
  rw [hget]
  exact ⟨this.1, this.2.1, this.2.2⟩
theorem s_make0 {o : Oper} (h : Rel N C0 w0 σ a w C m tk own) {k sz by_ : Nat} {x : VO} (hm : mop2 P o.op (.make0 k sz by_ x) = true) (hc : vcond (.make0 k sz by_ x) σ) : Stepped P N C0 w0 o a w (vval (.make0 k sz by_ x) σ) (vnext (.make0 k sz by_ x) σ) := by
 cases ho : o.op <;> rw [ho] at hm <;> first | (simp [mop2] at hm; done) | skip
 rename_i t l c
 simp only [mop2, Bool.and_eq_true] at hm
 obtain ⟨⟨h1, h2⟩, h3⟩ := hm
 split at h3 <;> first | (simp at h3; done) | skip
 rename_i e he
 simp only [Bool.and_eq_true, beq_iff_eq, decide_eq_true_eq] at h3
 obtain ⟨⟨⟨⟨hs, hby⟩, hble⟩, hsz0⟩, h4⟩ := h3
 split at h4 <;> first | (simp at h4; done) | skip
 rename_i i hi
 obtain ⟨zv, hz⟩ := Option.isSome_iff_exists.1 h4
 have hu := elOf_spec he
 have r1 := opd_rep h h1
 have r2 := opd_rep h h2
 simp only [vcond] at hc
 simp only [vval, vnext]
 simp only [ev] at r1
 generalize ev σ x = u at *
 cases u <;> first | exact hc.elim | skip
 rename_i n
 obtain ⟨hfresh, hn0, hsm⟩ := hc
 have e1 := rep_int r1
 have e2 := rep_int r2
 have hisz : i.size = sz := by simpa [szOf, hi] using hs
 have hiby : i.bytes = by_ := by simpa [byOf, hi] using hby
 have hn32 : n ≤ 4294967296 := by unfold small at hsm; omega
 have hbytes : (i.bytes : Int) * n ≤ 281474976710656 := by
  rw [hiby]
  have h5 : (by_ : Int) * n ≤ 16384 * 4294967296 := Int.mul_le_mul (by omega) hn32 hn0 (by omega)
  omega
 have hrun := run_make (P := P) w t e i zv hu hi hz .i64 .i64 0 n (Int.le_refl _) hn0 hbytes (by omega)
 let w' := w.alloc (.cells (madeCells zv.cells (n.toNat * i.size)) e)
 have h1' : Rel N C0 w0 σ a w' C m tk own := h.later (below_alloc w _) (fun _ _ x => x) (fun _ _ x => .inl x) (fun b o hb => by have := h.cval b o hb; simp [w']; omega)
 have hown : own w.heap.size = none := by
  cases ho' : own w.heap.size with
  | none => rfl
  | some y => have := h.owned _ _ ho'; omega
 have h2' := h1'.addOwn hown (by simp [w']) h.below.size (.inr k)
 have h3' := h2'.addTok hfresh (T' := ⟨some ⟨w.heap.size, 0, none⟩, n.toNat, 0, sz⟩) (C' := C) (fun _ _ x => x) (fun _ _ x => .inl x) (by
  refine ⟨by simp, fun _ => ⟨w.heap.size, rfl, by simp [upd], h.below.size, fun o _ ho => ?_, madeCells zv.cells (n.toNat * i.size), e, heap_alloc_new w _, ?_⟩⟩
  ·have := h.cval _ _ ho; omega
  ·rw [size_madeCells, hisz]; exact Nat.le_refl _)
 refine ⟨.slice (some ⟨w.heap.size, 0, none⟩) 0 n.toNat, w', C, m, _, _, .inl (by simp only [execOp, ho, e1, e2]; simp [hrun, w']), h3', .sl0 _ _ _, _, by simp [upd]; rfl, rfl, Nat.zero_le _, fun _ => rfl⟩
theorem evs_get (σ : AS) (xs : List VO) (j : Nat) : (evs σ xs)[j]? = xs[j]?.map (ev σ) := by
 induction xs generalizing j with
 | nil => simp [evs]
 | cons x r ih => cases j <;> simp [evs, ih]
theorem evs_length (σ : AS) (xs : List VO) : (evs σ xs).length = xs.length := by
 induction xs with
 | nil => rfl
 | cons x r ih => simp [evs, ih]
theorem strips_eq (hp : List (Nat × BX)) (l : List AV) : strips hp l = l.map (strip hp) := by
 induction l with
 | nil => rfl
 | cons x r ih => simp [strips, ih]
theorem allOk_mem {l : List AV} (h : allOk l) : ∀ x ∈ l, x.okv = true := by
 induction l with
 | nil => simp
 | cons y r ih => intro x hx; cases List.mem_cons.1 hx with
  | inl e => subst e; exact h.1
  | inr e => exact ih h.2 x e
theorem allSz_mem {sz : Nat} {l : List AV} (h : allSz sz l) : ∀ x ∈ l, x.cells.length = sz := by
 induction l with
 | nil => simp
 | cons y r ih => intro x hx; cases List.mem_cons.1 hx with
  | inl e => subst e; exact h.1
  | inr e => exact ih h.2 x e
theorem opds_get : ∀ (xs : List Operand) (ys : List VO), opds xs ys = true → xs.length = ys.length ∧ ∀ (j : Nat) (x : Operand) (y : VO), xs[j]? = some x → ys[j]? = some y → opd x y = true
 | [], [], _ => ⟨rfl, fun j x y h => by simp at h⟩
 | [], _ :: _, h => by simp [opds] at h
 | _ :: _, [], h => by simp [opds] at h
 | x :: xs, y :: ys, h => by
  simp only [opds, Bool.and_eq_true] at h
  obtain ⟨ih1, ih2⟩ := opds_get xs ys h.2
  refine ⟨by simp [ih1], fun j u v hu hv => ?_⟩
  cases j with
  | zero => simp at hu hv; subst hu; subst hv; exact h.1
  | succ j => exact ih2 j u v (by simpa using hu) (by simpa using hv)
theorem okv_ne {av : AV} (h : av.okv = true) : av ≠ .und := by intro e; subst e; simp [AV.okv] at h
theorem args_rep {σ' : AS} {C' : Nat → Nat → Prop} {own' : Nat → Option (Nat ⊕ Nat)} (h : Rel N C0 w0 σ a w C m tk own) (h' : Rel N C0 w0 σ' a w C' m tk own') (hC : ∀ x o, C x o → C' x o)
  {xs : List Operand} {ys : List VO} (hx : opds xs ys = true) (hok : allOk (strips σ'.hp (evs σ ys))) : Reps0 C' w (xs.map a.eval).toArray (strips σ'.hp (evs σ ys)) := by
 obtain ⟨h1, h2⟩ := opds_get _ _ hx
 rw [strips_eq] at hok ⊢
 refine ⟨by simp [evs_length, h1], fun j c hj => ?_⟩
 rw [List.getElem?_map, evs_get] at hj
 cases hy : ys[j]? with
 | none => simp [hy] at hj
 | some y =>
  have hlt : j < xs.length := by rw [h1]; exact (List.getElem?_eq_some_iff.1 hy).1
  have hxj : xs[j]? = some xs[j] := by simp [hlt]
  have ho := h2 j _ _ hxj hy
  have r := (opd_rep h ho).mono hC (Same.refl C w)
  simp only [hy, Option.map_some, Option.some.injEq] at hj
  subst hj
  have hmem : strip σ'.hp (ev σ y) ∈ (evs σ ys).map (strip σ'.hp) := by
   apply List.mem_of_getElem? (i := j)
   rw [List.getElem?_map, evs_get, hy]
   rfl
  simp only [List.getElem?_toArray, List.getElem?_map, hxj, Option.map_some, Option.getD_some]
  exact strip_rep h' r (okv_ne (allOk_mem hok _ hmem))
theorem s_mkf {o : Oper} (h : Rel N C0 w0 σ a w C m tk own) {f : FuncId} {xs : List VO} (hm : mop2 P o.op (.mkf f xs) = true) (hc : vcond (.mkf f xs) σ) : Stepped P N C0 w0 o a w (vval (.mkf f xs) σ) (vnext (.mkf f xs) σ) := by
 cases ho : o.op <;> rw [ho] at hm <;> first | (simp [mop2] at hm; done) | skip
 rename_i fn first caps
 simp only [mop2, Bool.and_eq_true, beq_iff_eq] at hm
 obtain ⟨⟨h1, h2⟩, h3⟩ := hm
 split at h1 <;> first | (simp at h1; done) | skip
 rename_i g
 have hgf : g = f := by simpa using h1
 subst hgf
 obtain ⟨C', own', h', hC⟩ := h.frzL (bids (evs σ xs))
 simp only [vcond] at hc
 have hr := args_rep h h' hC h3 (by simpa [frzS] using hc)
 have hf0 : first = #[] := by cases first; simp at h2; subst h2; rfl
 subst hf0
 refine ⟨.func (.func g) #[] (caps.map a.eval), w, C', m, tk, own', .inl (by simp [execOp, ho, Instr.makeFunc]), h', ?_⟩
 simp only [vval, frzS] at hr ⊢
 have he : (caps.toList.map a.eval).toArray = caps.map a.eval := by cases caps; simp
 rw [he] at hr
 exact .clo g #[] _ [] _ rfl hr.1 (fun j c hj => by simp at hj) hr.2
theorem s_mkm {o : Oper} (h : Rel N C0 w0 σ a w C m tk own) {f : FuncId} {xs : List VO} (hm : mop2 P o.op (.mkm f xs) = true) (hc : vcond (.mkm f xs) σ) : Stepped P N C0 w0 o a w (vval (.mkm f xs) σ) (vnext (.mkm f xs) σ) := by
 cases ho : o.op <;> rw [ho] at hm <;> first | (simp [mop2] at hm; done) | skip
 rename_i fn first caps
 simp only [mop2, Bool.and_eq_true, beq_iff_eq] at hm
 obtain ⟨⟨h1, h2⟩, h3⟩ := hm
 split at h1 <;> first | (simp at h1; done) | skip
 rename_i g
 have hgf : g = f := by simpa using h1
 subst hgf
 obtain ⟨C', own', h', hC⟩ := h.frzL (bids (evs σ xs))
 simp only [vcond] at hc
 have hr := args_rep h h' hC h3 (by simpa [frzS] using hc)
 have hf0 : caps = #[] := by cases caps; simp at h2; subst h2; rfl
 subst hf0
 refine ⟨.func (.func g) (first.map a.eval) #[], w, C', m, tk, own', .inl (by simp [execOp, ho, Instr.makeFunc]), h', ?_⟩
 simp only [vval, frzS] at hr ⊢
 have he : (first.toList.map a.eval).toArray = first.map a.eval := by cases first; simp
 rw [he] at hr
 exact .clo g _ #[] _ [] hr.1 rfl hr.2 (fun j c hj => by simp at hj)
theorem allW_mem : ∀ {l : List AV}, allW l → ∀ x ∈ l, x.okw = true
 | [], _, x, hx => by simp at hx
 | y :: r, h, x, hx => by
  cases List.mem_cons.1 hx with
  | inl e => subst e; exact h.1
  | inr e => exact allW_mem h.2 x e
theorem rep1_of_rep {v : Value} {av : AV} (hv : Rep C w m tk v av) (hk : av.okw = true) : Rep1 C w m v av := by
 cases av <;> first | (simp [AV.okw] at hk; done) | exact hv
theorem s_mkw {o : Oper} (h : Rel N C0 w0 σ a w C m tk own) {f : FuncId} {xs : List VO} (hm : mop2 P o.op (.mkw f xs) = true) (hc : vcond (.mkw f xs) σ) : Stepped P N C0 w0 o a w (vval (.mkw f xs) σ) (vnext (.mkw f xs) σ) := by
 cases ho : o.op <;> rw [ho] at hm <;> first | (simp [mop2] at hm; done) | skip
 rename_i fn first caps
 simp only [mop2, Bool.and_eq_true, beq_iff_eq] at hm
 obtain ⟨⟨h1, h2⟩, h3⟩ := hm
 split at h1 <;> first | (simp at h1; done) | skip
 rename_i g
 have hgf : g = f := by simpa using h1
 subst hgf
 simp only [vcond] at hc
 have hf0 : first = #[] := by cases first; simp at h2; subst h2; rfl
 subst hf0
 obtain ⟨q1, q2⟩ := opds_get _ _ h3
 refine ⟨.func (.func g) #[] (caps.map a.eval), w, C, m, tk, own, .inl (by simp [execOp, ho, Instr.makeFunc]), h, ?_⟩
 refine ⟨#[], caps.map a.eval, rfl, rfl, ?_, fun j c hj => by simp at hj, fun j c hj => ?_⟩
 ·have := q1; simp only [Array.length_toList] at this; simp [this, evs_length]
 ·have hk := allW_mem hc c (List.mem_of_getElem? hj)
  refine ⟨hk, ?_⟩
  rw [evs_get] at hj
  cases hy : xs[j]? with
  | none => simp [hy] at hj
  | some y =>
   have hlt : j < caps.toList.length := by rw [q1]; exact (List.getElem?_eq_some_iff.1 hy).1
   have hxj : caps.toList[j]? = some caps.toList[j] := by simp [hlt]
   have ho := q2 j _ _ hxj hy
   have r := opd_rep h ho
   simp only [hy, Option.map_some, Option.some.injEq] at hj
   subst hj
   have hlt' : j < caps.size := by simpa using hlt
   have he : (caps.map a.eval)[j]?.getD undef = a.eval caps.toList[j] := by simp [hlt']
   rw [he]
   exact rep1_of_rep r hk
end
end Go.V

set_option linter.unusedSimpArgs false
set_option linter.unusedVariables false
set_option linter.unnecessarySimpa false
namespace Go.V
open Go Go.RowKit
theorem fold_get (us : List Value) (k off : Nat) (cs : Array Value) :
  ((us.zipIdx k).foldl (fun cs (p : Value × Nat) => cs.setIfInBounds (off + p.2) p.1) cs).size = cs.size ∧
  ∀ i, ((us.zipIdx k).foldl (fun cs (p : Value × Nat) => cs.setIfInBounds (off + p.2) p.1) cs)[i]? = if off + k ≤ i ∧ i < off + k + us.length ∧ i < cs.size then us[i - (off + k)]? else cs[i]? := by
 induction us generalizing k cs with
 | nil =>
  refine ⟨rfl, fun i => ?_⟩
  rw [if_neg (by simp only [List.length_nil]; omega)]
  rfl
 | cons u us ih =>
  obtain ⟨h1, h2⟩ := ih (k + 1) (cs.setIfInBounds (off + k) u)
  simp only [List.zipIdx_cons, List.foldl_cons]
  refine ⟨by rw [h1]; simp, fun i => ?_⟩
  rw [h2 i]
  simp only [Array.size_setIfInBounds, List.length_cons]
  by_cases c : off + (k + 1) ≤ i ∧ i < off + (k + 1) + us.length ∧ i < cs.size
  ·rw [if_pos c, if_pos (by omega), show i - (off + k) = (i - (off + (k + 1))) + 1 by omega, List.getElem?_cons_succ]
  ·rw [if_neg c]
   by_cases e : i = off + k
   ·subst e
    by_cases hl : off + k < cs.size
    ·rw [if_pos (by omega)]
     simp [hl]
    ·rw [if_neg (by omega)]
     rw [Array.getElem?_setIfInBounds]
     simp [hl]
   ·rw [if_neg (by omega), Array.getElem?_setIfInBounds_ne (fun x => e x.symm)]
theorem fold_cells (v : Value) (off : Nat) (cs : Array Value) :
  (v.cells.zipIdx.foldl (fun cs (c, j) => cs.setIfInBounds (off + j) c) cs).size = cs.size ∧
  ∀ i, (v.cells.zipIdx.foldl (fun cs (c, j) => cs.setIfInBounds (off + j) c) cs)[i]? = if off ≤ i ∧ i < off + v.cells.size ∧ i < cs.size then v.cells[i - off]? else cs[i]? := by
 have h := fold_get v.cells.toList 0 off cs
 have e : v.cells.zipIdx.foldl (fun cs (c, j) => cs.setIfInBounds (off + j) c) cs = (v.cells.toList.zipIdx 0).foldl (fun cs (p : Value × Nat) => cs.setIfInBounds (off + p.2) p.1) cs := by
  rw [← Array.foldl_toList]
  simp [Array.toList_zipIdx]
 rw [e]
 simpa using h
section
variable {P : Program}
variable {N : Cfg} {C0 : Nat → Nat → Prop} {w0 : World} {σ : AS} {a : Act} {w : World} {C : Nat → Nat → Prop} {m : Nat → Option Nat} {tk : Nat → Option TK} {own : Nat → Option (Nat ⊕ Nat)}
theorem fill_row {sz : Nat} (hz : sz ≠ 0) (h : Rel N C0 w0 σ a w C m tk own) : ∀ (ps : List (Nat × Operand)) (ys : List VO) (k n : Nat) (cs : Array Value), partsOK k ps ys = true → cs.size = n * sz → k + ys.length ≤ n →
  (∀ y ∈ ys, (strip σ.hp (ev σ y)).okv = true ∧ (strip σ.hp (ev σ y)).cells.length = sz) →
  ∃ r, Instr.fill (fun i => some (i * sz, sz)) cs (ps.map fun p => (p.1, a.eval p.2)) = some r ∧ r.size = cs.size ∧
   (∀ i, i < k * sz ∨ (k + ys.length) * sz ≤ i → r[i]? = cs[i]?) ∧
   ∀ (i : Nat) (y : VO), ys[i]? = some y → ∀ (j : Nat) (c : AV), (strip σ.hp (ev σ y)).cells[j]? = some c → c.isCell = true ∧ Rep0 C w (r[(k + i) * sz + j]?.getD undef) c ∧ (r[(k + i) * sz + j]?.getD undef).oneCell' = true
 | [], [], k, n, cs, _, _, _, _ => ⟨cs, rfl, rfl, fun _ _ => rfl, fun i y hy => by simp at hy⟩
 | [], _ :: _, _, _, _, hp, _, _, _ => by simp [partsOK] at hp
 | _ :: _, [], _, _, _, hp, _, _, _ => by simp [partsOK] at hp
 | (i0, x) :: ps, y :: ys, k, n, cs, hp, hsz, hkn, hall => by
  simp only [partsOK, Bool.and_eq_true, beq_iff_eq] at hp
  obtain ⟨⟨rfl, hxy⟩, hps⟩ := hp
  obtain ⟨hok, hlen⟩ := hall y (by simp)
  have r0 := strip_rep h (opd_rep h hxy) (okv_ne hok)
  obtain ⟨c1, c2⟩ := r0.cellsAt (strip_elem hok) (.inl (okv_ne hok))
  have hvs : (a.eval x).cells.size = sz := by omega
  have hfit : i0 * sz + (a.eval x).cells.size ≤ cs.size := by
   rw [hsz, hvs]
   have : (i0 + 1) * sz ≤ n * sz := Nat.mul_le_mul_right _ (by simp at hkn; omega)
   rw [Nat.add_mul, Nat.one_mul] at this
   exact this
  obtain ⟨f1, f2⟩ := fold_cells (a.eval x) (i0 * sz) cs
  obtain ⟨r, g1, g2, g3, g4⟩ := fill_row hz h ps ys (i0 + 1) n _ hps (f1.trans hsz) (by simp at hkn; omega) (fun z hz' => hall z (by simp [hz']))
  refine ⟨r, ?_, g2.trans f1, fun i hi => ?_, fun i z hi j c hj => ?_⟩
  ·simp only [List.map_cons, Instr.fill]
   rw [if_neg (by simp [hvs]; omega)]
   exact g1
  ·simp only [List.length_cons] at hi
   rw [g3 i (by
    rcases hi with hi | hi
    ·left; rw [Nat.add_mul]; omega
    ·right; rw [show i0 + 1 + ys.length = i0 + (ys.length + 1) by omega]; exact hi), f2 i, if_neg]
   rintro ⟨e1, e2, e3⟩
   rcases hi with hi | hi
   ·omega
   ·have : (i0 + 1) * sz ≤ (i0 + (ys.length + 1)) * sz := Nat.mul_le_mul_right _ (by omega)
    rw [Nat.add_mul, Nat.one_mul] at this
    omega
  ·cases i with
   | succ i =>
    have := g4 i z (by simpa using hi) j c hj
    rwa [show i0 + 1 + i = i0 + (i + 1) by omega] at this
   | zero =>
    simp only [List.getElem?_cons_zero, Option.some.injEq] at hi
    subst hi
    have hjl : j < sz := by rw [← hlen]; exact (List.getElem?_eq_some_iff.1 hj).1
    obtain ⟨d1, d2⟩ := c2 j c hj
    rw [Nat.add_zero, g3 _ (by left; rw [Nat.add_mul, Nat.one_mul]; omega), f2, if_pos (by omega), Nat.add_sub_cancel_left]
    exact ⟨d1, d2, d2.oneCell d1⟩
theorem zeroK_spec {sz : Nat} {vs : List Value} {y : VO} (h : zeroK sz vs y = true) : ∃ v, y = .k v ∧ (∀ hp, strip hp v = v) ∧ v.okv = true ∧ v.cells.length = sz ∧ vs.length = sz ∧
  ∀ (j : Nat) (c : AV), v.cells[j]? = some c → c.isCell = true ∧ (vs[j]?.getD undef).oneCell' = true ∧ ∀ {C w}, Rep0 C w (vs[j]?.getD undef) c := by
 unfold zeroK at h
 split at h
 ·rename_i z
  simp only [Bool.and_eq_true, beq_iff_eq] at h
  obtain ⟨⟨h1, h2⟩, h3⟩ := h
  obtain ⟨k1, k2⟩ := constCs_spec _ _ h1
  refine ⟨.agg z, rfl, fun _ => rfl, rfl, h2, by omega, fun j c hj => ?_⟩
  have hj : z[j]? = some c := hj
  obtain ⟨a1, a2, a3⟩ := k2 j c hj
  refine ⟨a1, a2, fun {C w} => ?_⟩
  have hc := List.all_eq_true.1 h3 c (List.mem_of_getElem? hj)
  have := a3 (C := C) (w := w) (m := fun _ => none) (tk := fun _ => none)
  cases c <;> first | exact this | (simp at hc; done)
 ·rename_i n
  simp only [Bool.and_eq_true, beq_iff_eq] at h
  obtain ⟨h1, h2⟩ := h
  obtain ⟨k1, k2⟩ := constCs_spec _ _ h2
  refine ⟨.int n, rfl, fun _ => rfl, rfl, h1.symm, by rw [k1, h1]; rfl, fun j c hj => ?_⟩
  have hj : [AV.int n][j]? = some c := hj
  obtain ⟨a1, a2, a3⟩ := k2 j c hj
  refine ⟨a1, a2, fun {C w} => ?_⟩
  have hc : c = .int n := by
   rcases j with _ | j
   ·simpa using hj.symm
   ·simp at hj
  subst hc
  exact a3 (C := C) (w := w) (m := fun _ => none) (tk := fun _ => none)
 ·simp at h
theorem s_bsliceM {o : Oper} (h : Rel N C0 w0 σ a w C m tk own) {t : TypeId} {l c : Operand} {sz : Nat} {xs : List VO} (ho : o.op = .makeSlice t l c) (hm : mop2 P (.makeSlice t l c) (.bslice sz xs) = true) : Stepped P N C0 w0 o a w (vval (.bslice sz xs) σ) (vnext (.bslice sz xs) σ) := by
 simp only [mop2, Bool.and_eq_true, decide_eq_true_eq] at hm
 obtain ⟨⟨⟨h1, h2⟩, hn⟩, h4⟩ := hm
 split at h4 <;> first | (simp at h4; done) | skip
 rename_i e he
 simp only [Bool.and_eq_true, beq_iff_eq, decide_eq_true_eq] at h4
 obtain ⟨⟨hs, hsz0⟩, h4⟩ := h4
 split at h4 <;> first | (simp at h4; done) | skip
 rename_i i hi
 simp only [Bool.and_eq_true, decide_eq_true_eq] at h4
 obtain ⟨hby, h4⟩ := h4
 split at h4 <;> first | (simp at h4; done) | skip
 rename_i zv hz
 have hu := elOf_spec he
 have r1 := opd_rep h h1
 have r2 := opd_rep h h2
 simp only [ev] at r1 r2
 have e1 := rep_int r1
 have e2 := rep_int r2
 obtain ⟨n, hnn⟩ : ∃ n, xs.length = n := ⟨_, rfl⟩
 rw [hnn] at e1 e2 hn
 have hisz : i.size = sz := by simpa [szOf, hi] using hs
 have hbytes : (i.bytes : Int) * (n : Int) ≤ 281474976710656 := by
  have h5 : (i.bytes : Int) * (n : Int) ≤ 16384 * 65536 := Int.mul_le_mul (by omega) (by omega) (by omega) (by omega)
  omega
 have hrun0 := run_make (P := P) w t e i zv hu hi hz .i64 .i64 (n : Int) (n : Int) (by omega) (Int.le_refl _) hbytes (by omega)
 have hz1 : ∀ y ∈ xs, _ := fun y hy => zeroK_spec (List.all_eq_true.1 h4 y hy)
 let r : Array Value := madeCells zv.cells (n * sz)
 have g2 : r.size = n * sz := size_madeCells _ _
 have hrun : (execOp a.eval o).run P w = .ok (.value (.slice (some ⟨w.heap.size, 0, none⟩) n n)) (w.alloc (.cells r e)) := by
  simp only [execOp, ho, e1, e2]
  rw [hisz] at hrun0
  simp only [Int.toNat_natCast] at hrun0
  simp [hrun0, r]
 have hstr : strips σ.hp (evs σ xs) = xs.map (ev σ) := by
  rw [strips_eq]
  apply List.ext_getElem?
  intro j
  rw [List.getElem?_map, evs_get, List.getElem?_map]
  cases hy : xs[j]? with
  | none => rfl
  | some y =>
   obtain ⟨v, rfl, k2, _⟩ := hz1 y (List.mem_of_getElem? hy)
   simp [ev, k2]
 let C' : Nat → Nat → Prop := fun x k => C x k ∨ (x = w.heap.size ∧ k < n * sz)
 have hC : ∀ x k, C x k → C' x k := fun x k hx => .inl hx
 have hbel := below_alloc w (.cells r e)
 have h' : Rel N C0 w0 σ a (w.alloc (.cells r e)) C' m tk own := by
  refine h.later hbel hC ?_ ?_
  ·rintro x k (hx | ⟨rfl, _⟩)
   ·exact .inl hx
   ·exact .inr (Nat.le_refl _)
  ·rintro x k (hx | ⟨rfl, _⟩)
   ·have := h.cval x k hx; simp; omega
   ·simp
 refine ⟨_, _, C', m, tk, own, .inl hrun, h', ?_⟩
 simp only [vval]
 rw [hstr]
 have hlen : (xs.map (ev σ)).length = n := by simp [hnn]
 have hget : ∀ (i : Nat) (e' : AV), (xs.map (ev σ))[i]? = some e' → ∃ v, xs[i]? = some (.k v) ∧ e' = v ∧ VO.k v ∈ xs := by
  intro i e' hi'
  rw [List.getElem?_map] at hi'
  cases hy : xs[i]? with
  | none => simp [hy] at hi'
  | some y =>
   obtain ⟨v, rfl, _⟩ := hz1 y (List.mem_of_getElem? hy)
   simp [hy, ev] at hi'
   exact ⟨v, rfl, hi'.symm, List.mem_of_getElem? hy⟩
 have hrow : Row C' (w.alloc (.cells r e)) w.heap.size 0 sz (xs.map (ev σ)) (fun i j => r[i * sz + j]?.getD undef) := by
  have key : ∀ (v : AV), VO.k v ∈ xs → (∀ hp, strip hp v = v) ∧ v.okv = true ∧ v.cells.length = sz ∧ zv.cells.toList.length = sz ∧ ∀ (j : Nat) (c : AV), v.cells[j]? = some c → c.isCell = true ∧ (zv.cells.toList[j]?.getD undef).oneCell' = true ∧ ∀ {C w}, Rep0 C w (zv.cells.toList[j]?.getD undef) c := by
   intro v hv
   obtain ⟨v', hv', q⟩ := hz1 _ hv
   cases hv'
   exact q
  have hcell : ∀ (i j : Nat), i < n → j < sz → zv.cells.toList.length = sz → r[i * sz + j]?.getD undef = zv.cells.toList[j]?.getD undef := by
   intro i j hi' hj hl
   have hlt := idx_lt hi' hj
   have hr : (Array.range (n * sz))[i * sz + j]? = some (i * sz + j) := by simp [hlt]
   have hzz : zv.cells.size = sz := by simpa using hl
   show (madeCells zv.cells (n * sz))[i * sz + j]?.getD undef = _
   unfold madeCells
   rw [Array.getElem?_map, hr]
   have hmod : (i * sz + j) % sz = j := by rw [Nat.mul_comm, Nat.mul_add_mod, Nat.mod_eq_of_lt hj]
   simp [hzz, hmod, hj]
  refine ⟨fun i e' hi' => ?_, fun i e' hi' => ?_, fun i j hi' hj => ?_, fun i j hi' hj => ?_, fun i e' hi' j c hj => ?_, fun i e' hi' j c hj => ?_⟩
  ·obtain ⟨_, _, rfl, hv⟩ := hget i e' hi'
   exact (key e' hv).2.2.1
  ·obtain ⟨_, _, rfl, hv⟩ := hget i e' hi'
   have := strip_elem (hp := σ.hp) (av := e') (by rw [(key e' hv).1]; exact (key e' hv).2.1)
   rwa [(key e' hv).1] at this
  ·rw [hlen] at hi'
   rw [Nat.zero_add]
   exact .inr ⟨rfl, idx_lt hi' hj⟩
  ·rw [hlen] at hi'
   rw [Nat.zero_add, World.cell?_alloc_new]
   have : i * sz + j < r.size := by rw [g2]; exact idx_lt hi' hj
   simp [this]
  ·have hi2 : i < n := by rw [← hlen]; exact (List.getElem?_eq_some_iff.1 hi').1
   obtain ⟨_, _, rfl, hv⟩ := hget i e' hi'
   exact ((key e' hv).2.2.2.2 j c hj).1
  ·have hi2 : i < n := by rw [← hlen]; exact (List.getElem?_eq_some_iff.1 hi').1
   obtain ⟨_, _, rfl, hv⟩ := hget i e' hi'
   have k := key e' hv
   have hj2 : j < sz := by rw [← k.2.2.1]; exact (List.getElem?_eq_some_iff.1 hj).1
   rw [hcell i j hi2 hj2 k.2.2.2.1]
   exact (k.2.2.2.2 j c hj).2.2
 refine ⟨?_, some ⟨w.heap.size, 0, none⟩, by rw [hlen]⟩
 have := hrow.sl (cap := n) (by omega)
 rwa [hlen] at this
theorem s_bslice {o : Oper} (h : Rel N C0 w0 σ a w C m tk own) {sz : Nat} {xs : List VO} (hm : mop2 P o.op (.bslice sz xs) = true) (hc : vcond (.bslice sz xs) σ) : Stepped P N C0 w0 o a w (vval (.bslice sz xs) σ) (vnext (.bslice sz xs) σ) := by
 cases ho : o.op <;> rw [ho] at hm <;> first | (simp [mop2] at hm; done) | (exact s_bsliceM h ho hm) | skip
 rename_i t n parts
 simp only [mop2, Bool.and_eq_true, beq_iff_eq, decide_eq_true_eq] at hm
 obtain ⟨⟨⟨⟨h1, h2⟩, h3⟩, hsz0⟩, h4⟩ := hm
 split at h4 <;> first | (simp at h4; done) | skip
 rename_i e he
 simp only [Bool.and_eq_true, beq_iff_eq] at h4
 obtain ⟨hs, h4⟩ := h4
 split at h4 <;> first | (simp at h4; done) | skip
 rename_i i hi
 obtain ⟨zv, hz⟩ := Option.isSome_iff_exists.1 h4
 have hu := elOf_spec he
 have hsz : sz ≠ 0 := by simpa using hsz0
 obtain ⟨hc1, hc2⟩ := hc
 have hmemS : ∀ y ∈ xs, (strip σ.hp (ev σ y)).okv = true ∧ (strip σ.hp (ev σ y)).cells.length = sz := by
  intro y hy
  rw [strips_eq] at hc1 hc2
  obtain ⟨j, hj, rfl⟩ := List.getElem_of_mem hy
  have hmem : strip σ.hp (ev σ xs[j]) ∈ (evs σ xs).map (strip σ.hp) := by
   apply List.mem_of_getElem? (i := j)
   rw [List.getElem?_map, evs_get]
   simp [hj]
  exact ⟨allOk_mem hc1 _ hmem, allSz_mem hc2 _ hmem⟩
 let cs0 : Array Value := (Array.range (n * sz)).map fun x => ((if n * sz = 0 then #[] else zv.cells)[x % (if n * sz = 0 then #[] else zv.cells).size]!)
 have hcs0 : cs0.size = n * sz := by simp [cs0]
 obtain ⟨r, g1, g2, g3, g4⟩ := fill_row hsz h parts.toList xs 0 n cs0 h1 hcs0 (by omega) hmemS
 have hrun : (execOp a.eval o).run P w = .ok (.value (.slice (some ⟨w.heap.size, 0, none⟩) n n)) (w.alloc (.cells r e)) := by
  have hfill : Instr.fill (fun i => some (i * sz, sz)) cs0 ((parts.map fun x => (x.1, a.eval x.2)).toList) = some r := by
   rw [Array.toList_map]; exact g1
  have h24 : ¬ (n * sz > 2 ^ 24) := by omega
  simp only [execOp, ho, Instr.buildSlice, Sem.run_bind, Sem.run_pure, Result.andThen_ok, run_underlying hu, run_szOf hs, if_neg h24]
  by_cases hz0 : n * sz = 0
  ·simp only [cs0, hz0, if_true] at hfill
   simp only [hz0, if_true, Sem.run_bind, Sem.run_pure, Result.andThen_ok, hfill]
   simp [newRow]
  ·simp only [cs0, hz0, if_false] at hfill
   have hzv : (zeroValue e).run P w = .ok zv w := by simp [zeroValue, typeInfo, hi, hz]
   simp only [hz0, if_false, Sem.run_bind, Sem.run_pure, Result.andThen_ok, hzv, hfill]
   simp [newRow]
 let C' : Nat → Nat → Prop := fun x k => C x k ∨ (x = w.heap.size ∧ k < n * sz)
 have hC : ∀ x k, C x k → C' x k := fun x k hx => .inl hx
 have hbel := below_alloc w (.cells r e)
 have h' : Rel N C0 w0 σ a (w.alloc (.cells r e)) C' m tk own := by
  refine h.later hbel hC ?_ ?_
  ·rintro x k (hx | ⟨rfl, _⟩)
   ·exact .inl hx
   ·exact .inr (Nat.le_refl _)
  ·rintro x k (hx | ⟨rfl, _⟩)
   ·have := h.cval x k hx; simp; omega
   ·simp
 have hs' : Same C w (w.alloc (.cells r e)) := same_of_below h.cval hbel
 refine ⟨_, _, C', m, tk, own, .inl hrun, h', ?_⟩
 simp only [vval]
 have hlen : (strips σ.hp (evs σ xs)).length = n := by rw [strips_eq]; simp [evs_length, h2]
 have hget : ∀ (i : Nat) (e' : AV), (strips σ.hp (evs σ xs))[i]? = some e' → ∃ y, xs[i]? = some y ∧ e' = strip σ.hp (ev σ y) := by
  intro i e' hi'
  rw [strips_eq, List.getElem?_map, evs_get] at hi'
  cases hy : xs[i]? with
  | none => simp [hy] at hi'
  | some y => simp [hy] at hi'; exact ⟨y, rfl, hi'.symm⟩
 have hrow : Row C' (w.alloc (.cells r e)) w.heap.size 0 sz (strips σ.hp (evs σ xs)) (fun i j => r[i * sz + j]?.getD undef) := by
  refine ⟨fun i e' hi' => ?_, fun i e' hi' => ?_, fun i j hi' hj => ?_, fun i j hi' hj => ?_, fun i e' hi' j c hj => ?_, fun i e' hi' j c hj => ?_⟩
  ·obtain ⟨y, hy, rfl⟩ := hget i e' hi'
   exact (hmemS y (List.mem_of_getElem? hy)).2
  ·obtain ⟨y, hy, rfl⟩ := hget i e' hi'
   exact strip_elem (hmemS y (List.mem_of_getElem? hy)).1
  ·rw [hlen] at hi'
   rw [Nat.zero_add]
   exact .inr ⟨rfl, idx_lt hi' hj⟩
  ·rw [hlen] at hi'
   rw [Nat.zero_add, World.cell?_alloc_new]
   have : i * sz + j < r.size := by rw [g2, hcs0]; exact idx_lt hi' hj
   simp [this]
  ·obtain ⟨y, hy, rfl⟩ := hget i e' hi'
   exact (g4 i y hy j c hj).1
  ·obtain ⟨y, hy, rfl⟩ := hget i e' hi'
   have := (g4 i y hy j c hj).2.1
   rw [Nat.zero_add] at this
   exact this.mono hC hs'
 refine ⟨?_, some ⟨w.heap.size, 0, none⟩, by rw [hlen]⟩
 have := hrow.sl (cap := n) (by omega)
 rwa [hlen] at this
theorem run_places {t : TypeId} {fs : Array Field} (hst : structOK P t = true) (hu : P.underlying t = some (.struct fs)) (w : World) :
  ∃ pl : Array (Nat × Nat), (fs.mapM fun f => do pure (f.offset, ← sizeOf f.type) : Sem (Array (Nat × Nat))).run P w = .ok pl w ∧ ∀ i o ft s, fldOf P t i = some (o, ft) → szOf P ft = some s → pl[i]? = some (o, s) := by
 have hall : ∀ f ∈ fs.toList, (szOf P f.type).isSome = true := by
  simp only [structOK, hu] at hst
  exact List.all_eq_true.1 hst
 have key : ∀ (l : List Field), (∀ f ∈ l, (szOf P f.type).isSome = true) → (l.mapM fun f => do pure (f.offset, ← sizeOf f.type) : Sem (List (Nat × Nat))).run P w = .ok (l.map fun f => (f.offset, (szOf P f.type).getD 0)) w := by
  intro l
  induction l with
  | nil => intro _; rfl
  | cons f r ih =>
   intro hl
   obtain ⟨s, hs⟩ := Option.isSome_iff_exists.1 (hl f (by simp))
   have := ih fun g hg => hl g (by simp [hg])
   simp only [List.mapM_cons, Sem.run_bind, run_szOf hs, Result.andThen_ok, Sem.run_pure, this, List.map_cons, hs, Option.getD_some]
 refine ⟨(fs.toList.map fun f => (f.offset, (szOf P f.type).getD 0)).toArray, ?_, fun i o ft s h1 h2 => ?_⟩
 ·have := key fs.toList hall
  rw [Array.mapM_eq_mapM_toList]
  simp only [Sem.run_map, this, Result.andThen_ok]
 ·obtain ⟨fs', f, hu', hf, rfl, rfl⟩ := fldOf_spec h1
  rw [hu] at hu'
  injection hu' with hu'
  injection hu' with hu'
  subst hu'
  simp [hf, h2]
theorem fill_struct {t : TypeId} {pl : Array (Nat × Nat)} (hpl : ∀ i o ft s, fldOf P t i = some (o, ft) → szOf P ft = some s → pl[i]? = some (o, s)) (h : Rel N C0 w0 σ a w C m tk own) :
  ∀ (ps : List (Nat × Operand)) (ys : List (Nat × Nat × VO)) (cs : Array Value) (zs : List AV), fldsOK P t ps ys = true → cs.size = zs.length → fillOk σ.hp σ zs.length ys →
  (∀ (j : Nat) (c : AV), zs[j]? = some c → c.isCell = true ∧ Rep0 C w (cs[j]?.getD undef) c) →
  ∃ r, Instr.fill (pl[·]?) cs (ps.map fun p => (p.1, a.eval p.2)) = some r ∧ r.size = (fillV σ.hp σ zs ys).length ∧
   ∀ (j : Nat) (c : AV), (fillV σ.hp σ zs ys)[j]? = some c → c.isCell = true ∧ Rep0 C w (r[j]?.getD undef) c
 | [], [], cs, zs, _, hsz, _, hr => ⟨cs, rfl, hsz, hr⟩
 | [], _ :: _, _, _, hp, _, _, _ => by simp [fldsOK] at hp
 | _ :: _, [], _, _, hp, _, _, _ => by simp [fldsOK] at hp
 | (i0, x) :: ps, (off, sz, y) :: ys, cs, zs, hp, hsz, hok, hr => by
  simp only [fldsOK, Bool.and_eq_true] at hp
  obtain ⟨⟨h1, h2⟩, h3⟩ := hp
  split at h1 <;> first | (simp at h1; done) | skip
  rename_i o1 ft hf
  simp only [Bool.and_eq_true, beq_iff_eq] at h1
  obtain ⟨rfl, hs⟩ := h1
  obtain ⟨k1, k2, k3, k4⟩ := hok
  have r0 := strip_rep h (opd_rep h h2) (okv_ne k1)
  obtain ⟨c1, c2⟩ := r0.cellsAt (strip_elem k1) (.inl (okv_ne k1))
  have hvs : (a.eval x).cells.size = sz := by omega
  obtain ⟨f1, f2⟩ := fold_cells (a.eval x) o1 cs
  have hl2 : (setAt zs o1 (strip σ.hp (ev σ y)).cells).length = zs.length := setAt_length _ _ _ (by omega)
  obtain ⟨r, g1, g2, g3⟩ := fill_struct hpl h ps ys _ (setAt zs o1 (strip σ.hp (ev σ y)).cells) h3 (by rw [f1, hl2]; exact hsz) (by rw [hl2]; exact k4) (fun j c hj => by
   rw [setAt_get _ _ _ _ (by omega)] at hj
   rw [f2 j]
   by_cases hjj : o1 ≤ j ∧ j < o1 + (strip σ.hp (ev σ y)).cells.length
   ·rw [if_pos hjj] at hj
    rw [if_pos (by omega)]
    exact c2 _ _ hj
   ·rw [if_neg hjj] at hj
    rw [if_neg (by omega)]
    exact hr _ _ hj)
  refine ⟨r, ?_, g2, g3⟩
  simp only [List.map_cons, Instr.fill, hpl _ _ _ _ hf hs]
  rw [if_neg (by simp [hvs]; omega)]
  exact g1
theorem fill_array {s : Nat} (h : Rel N C0 w0 σ a w C m tk own) :
  ∀ (ps : List (Nat × Operand)) (ys : List (Nat × Nat × VO)) (cs : Array Value) (zs : List AV), elsOK s ps ys = true → cs.size = zs.length → fillOk σ.hp σ zs.length ys →
  (∀ (j : Nat) (c : AV), zs[j]? = some c → c.isCell = true ∧ Rep0 C w (cs[j]?.getD undef) c) →
  ∃ r, Instr.fill (fun i => some (i * s, s)) cs (ps.map fun p => (p.1, a.eval p.2)) = some r ∧ r.size = (fillV σ.hp σ zs ys).length ∧
   ∀ (j : Nat) (c : AV), (fillV σ.hp σ zs ys)[j]? = some c → c.isCell = true ∧ Rep0 C w (r[j]?.getD undef) c
 | [], [], cs, zs, _, hsz, _, hr => ⟨cs, rfl, hsz, hr⟩
 | [], _ :: _, _, _, hp, _, _, _ => by simp [elsOK] at hp
 | _ :: _, [], _, _, hp, _, _, _ => by simp [elsOK] at hp
 | (i0, x) :: ps, (off, sz, y) :: ys, cs, zs, hp, hsz, hok, hr => by
  simp only [elsOK, Bool.and_eq_true, beq_iff_eq] at hp
  obtain ⟨⟨⟨ho, hs⟩, h2⟩, h3⟩ := hp
  obtain ⟨o1, ho1⟩ : ∃ o1, i0 * s = o1 := ⟨_, rfl⟩
  rw [ho1] at ho
  subst ho
  subst hs
  obtain ⟨k1, k2, k3, k4⟩ := hok
  have r0 := strip_rep h (opd_rep h h2) (okv_ne k1)
  obtain ⟨c1, c2⟩ := r0.cellsAt (strip_elem k1) (.inl (okv_ne k1))
  have hvs : (a.eval x).cells.size = sz := by omega
  obtain ⟨f1, f2⟩ := fold_cells (a.eval x) off cs
  have hl2 : (setAt zs off (strip σ.hp (ev σ y)).cells).length = zs.length := setAt_length _ _ _ (by omega)
  obtain ⟨r, g1, g2, g3⟩ := fill_array h ps ys _ (setAt zs off (strip σ.hp (ev σ y)).cells) h3 (by rw [f1, hl2]; exact hsz) (by rw [hl2]; exact k4) (fun j c hj => by
   rw [setAt_get _ _ _ _ (by omega)] at hj
   rw [f2 j]
   by_cases hjj : off ≤ j ∧ j < off + (strip σ.hp (ev σ y)).cells.length
   ·rw [if_pos hjj] at hj
    rw [if_pos (by omega)]
    exact c2 _ _ hj
   ·rw [if_neg hjj] at hj
    rw [if_neg (by omega)]
    exact hr _ _ hj)
  refine ⟨r, ?_, g2, g3⟩
  simp only [List.map_cons, Instr.fill, ho1]
  rw [if_neg (by simp [hvs]; omega)]
  exact g1
theorem s_build {o : Oper} (h : Rel N C0 w0 σ a w C m tk own) {z : List AV} {ys : List (Nat × Nat × VO)} (hm : mop2 P o.op (.build z ys) = true) (hc : vcond (.build z ys) σ) : Quiet P o a w C m tk (vval (.build z ys) σ) := by
 cases ho : o.op <;> rw [ho] at hm <;> first | (simp [mop2] at hm; done) | skip
 rename_i t parts
 simp only [mop2, Bool.and_eq_true, Bool.or_eq_true] at hm
 obtain ⟨h12, h3⟩ := hm
 split at h3 <;> first | (simp at h3; done) | skip
 rename_i i hi
 split at h3 <;> first | (simp at h3; done) | skip
 rename_i zv hz
 obtain ⟨k1, k2⟩ := constCs0_spec (C := C) (w := w) _ _ h3
 rcases h12 with ⟨h1, h2⟩ | h1
 ·have hus : ∃ fs, P.underlying t = some (.struct fs) := by
   unfold structOK at h2
   cases hq : P.underlying t with
   | none => simp [hq] at h2
   | some d => cases d <;> simp [hq] at h2; exact ⟨_, rfl⟩
  obtain ⟨fs, hu⟩ := hus
  obtain ⟨pl, hpl1, hpl2⟩ := run_places h2 hu w
  obtain ⟨r, g1, g2, g3⟩ := fill_struct hpl2 h parts.toList ys zv.cells z h1 (by simpa using k1) hc (fun j c hj => by simpa using k2 j c hj)
  refine quiet_of (v := .agg r) ?_ ?_
  ·simp only [bind_pure_comp] at hpl1
   simp [execOp, ho, Instr.build, zeroValue, typeInfo, hi, hz, run_underlying hu, hpl1, g1]
  ·exact Rep0.toRep (.agg _ _ g2 (fun j c hj => (g3 j c hj).1) fun j c hj => (g3 j c hj).2)
 ·unfold arrOK at h1
  split at h1 <;> first | (simp at h1; done) | skip
  rename_i n e har
  split at h1 <;> first | (simp at h1; done) | skip
  rename_i s hs
  have hu : P.underlying t = some (.array n e) := by
   unfold arOf at har
   cases hq : P.underlying t with
   | none => simp [hq] at har
   | some d => cases d <;> simp [hq] at har; obtain ⟨rfl, rfl⟩ := har; rfl
  obtain ⟨r, g1, g2, g3⟩ := fill_array h parts.toList ys zv.cells z h1 (by simpa using k1) hc (fun j c hj => by simpa using k2 j c hj)
  refine quiet_of (v := .agg r) ?_ ?_
  ·simp [execOp, ho, Instr.build, zeroValue, typeInfo, hi, hz, run_underlying hu, run_szOf hs, g1]
  ·exact Rep0.toRep (.agg _ _ g2 (fun j c hj => (g3 j c hj).1) fun j c hj => (g3 j c hj).2)
end
end Go.V
