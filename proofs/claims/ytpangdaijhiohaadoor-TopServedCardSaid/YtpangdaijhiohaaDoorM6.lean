/- Merged by program: T19. -/
import Derived.Test.YtpangdaijhiohaaDoorM5
import Derived.Test.YtpangdaijhiohaaDoorRows
import Derived.Deep.Strs
import Derived.LaidMore
import Derived.OpenShut
/- The row's arguments, and what it lists. -/
set_option linter.unusedSimpArgs false
set_option linter.unusedVariables false
set_option linter.unnecessarySimpa false
namespace Go.Proofs.YtpangdaijhiohaaDoor.Bd
open Go Go.V Mo Bu Go.ChangeShapes Go.WideShapes Go.ChangeAt Go.RowKit

theorem ty_wys {cs : List AV} (h : Ty (.sl (.st [.int, .int])) cs) : ∃ l : List Wy, cs = [WS l] := by
  rw [Ty] at h
  obtain ⟨es, rfl, h1, h2⟩ := h
  obtain ⟨l, h3, _, _⟩ := map_choose (F := fun x => if TC.isSt (.st [.int, .int]) then AV.agg x else x[0]?.getD .und) (G := WYv) (Q := fun _ => True) es (fun x hx => by
    have := h2 x hx
    rw [Ty] at this
    simp only [TyL] at this
    obtain ⟨a, r, rfl, ha, b, r2, rfl, hb, rfl⟩ := this
    rw [Ty] at ha hb
    obtain ⟨n, _, rfl⟩ := ha
    obtain ⟨m, _, rfl⟩ := hb
    exact ⟨⟨n, m⟩, rfl, trivial⟩)
  refine ⟨l, ?_⟩
  rw [h3]
  rfl
theorem ty_tn {av : AV} (h : TyV (.st [.sl .int, .sl .int, .sl (.st [.int, .int])]) av) : ∃ t : Tn, av = TB t := by
  obtain ⟨cs, rfl, h⟩ := h
  simp only [TyL] at h
  obtain ⟨a, x, rfl, ha, b, y, rfl, hb, c, z, rfl, hc, rfl⟩ := h
  obtain ⟨l, rfl, _⟩ := ty_is ha
  obtain ⟨m, rfl, _⟩ := ty_is hb
  obtain ⟨k, rfl⟩ := ty_wys hc
  exact ⟨⟨l, m, k⟩, rfl⟩

theorem gNone : Tryd.prog.globalNamed "steening/buckets.none" = some 0 := by kernel_rfl
theorem tNone : (Tryd.prog.globals[0]?).map (·.type) = some 64 := by kernel_rfl
abbrev laid1 : List (String × DataW Unit) := [("steening/buckets.none", Rows.laid_steening_buckets_none)]

/-- What the condition gives: the three cells. -/
theorem of_laid {W : World} (h : laidMetH Tryd.prog laid1 W) : W.cell? ⟨0, 0, none⟩ = some (.int .i64 (-1)) ∧ W.cell? ⟨0, 1, none⟩ = some (.int .i64 (-1)) ∧ W.cell? ⟨0, 2, none⟩ = some (.int .i64 0) := by
  rw [MakeChecks.laidMetH_plain _ _ _ (by kernel_rfl)] at h
  obtain ⟨ps, ⟨g0, t0, cs0, f0, p0, q0, hg0, ht0, hv0, hd0, rest⟩, rest2⟩ := h
  obtain rfl := Option.some.inj (gNone.symm.trans hg0)
  obtain rfl := Option.some.inj (tNone.symm.trans ht0)
  obtain ⟨y0, y1, y2, n, hx, hlen, k0, k1, k2⟩ := Go.Deep.trod_struct3 Tryd.underlying64 hd0
  obtain ⟨m0, c0, x0, _⟩ := DataW.trod_int Tryd.underlying3 k0
  obtain ⟨m1, c1, x1, _⟩ := DataW.trod_int Tryd.underlying3 k1
  obtain ⟨m2, c2, x2, _⟩ := DataW.trod_int Tryd.underlying3 k2
  subst x0 x1 x2
  have c3 : Tryd.prog.cellsOf 3 = 1 := by kernel_rfl
  have c64 : Tryd.prog.cellsOf 64 = 3 := by kernel_rfl
  rw [c64] at hlen
  have h0 := World.var?_cell hg0 hv0 0
  have h1 := World.var?_cell hg0 hv0 1
  have h2 := World.var?_cell hg0 hv0 2
  obtain ⟨l⟩ := cs0
  have hl3 : l.length = 3 := hlen
  have hx' : (Rows.laid_steening_buckets_none : DataW Unit) = .agg [.lit (.int .i64 m0), .lit (.int .i64 m1), .lit (.int .i64 m2)] := (Prod.mk.inj hx).1
  have d0 : List.take (Tryd.prog.cellsOf 3) (List.drop 0 l) = [.int .i64 m0] := c0
  have d1 : List.take (Tryd.prog.cellsOf 3) (List.drop 1 l) = [.int .i64 m1] := c1
  have d2 : List.take (Tryd.prog.cellsOf 3) (List.drop 2 l) = [.int .i64 m2] := c2
  rw [c3] at d0 d1 d2
  clear c0 c1 c2 k0 k1 k2 hx hd0 hv0 hg0 ht0 rest rest2 c64 c3 hlen
  obtain ⟨a, b, c, rfl⟩ : ∃ a b c, l = [a, b, c] := by
    match l, hl3 with
    | [a, b, c], _ => exact ⟨a, b, c, rfl⟩
  have ea : a = .int .i64 m0 := by simpa using d0
  have eb : b = .int .i64 m1 := by simpa using d1
  have ec : c = .int .i64 m2 := by simpa using d2
  subst ea eb ec
  unfold Rows.laid_steening_buckets_none at hx'
  simp only [DataW.agg.injEq, List.cons.injEq, DataW.lit.injEq, Lit.int.injEq, true_and, and_true] at hx'
  obtain ⟨rfl, rfl, rfl⟩ := hx'
  exact ⟨h0, h1, h2⟩

theorem gf_of {W : World} (h : laidMetH Tryd.prog laid1 W) : GF (CAll W) W := by
  obtain ⟨h0, h1, h2⟩ := of_laid h
  intro x hx
  have : x = (0, 0, -1) ∨ x = (0, 1, -1) ∨ x = (0, 2, 0) := by simpa [GL] using hx
  rcases this with rfl | rfl | rfl
  · exact ⟨World.block_lt_of_cell? W _ h0, h0⟩
  · exact ⟨World.block_lt_of_cell? W _ h1, h1⟩
  · exact ⟨World.block_lt_of_cell? W _ h2, h2⟩

end Go.Proofs.YtpangdaijhiohaaDoor.Bd

