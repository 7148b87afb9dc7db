import Derived.Test.YthfmmkgdheemhaaAt2
import Derived.Deep.WholeRow
import Derived.Deep.MidRow
namespace Go.Proofs.Ythfmmkgdheemhaa
open Go.RowKit
open Go

/-- what a prim that clears holds, of its cells -/
structure Clr (c : Array Value) (what : Int) (to : Px) (x0 y0 x1 y1 : Int) : Prop where
  size : c.size = 88
  kind : c[0]? = some (.int .i64 1)
  what : c[77]? = some (.int .i64 what)
  p0 : c[78]? = some (.int .i64 to.r)
  p1 : c[79]? = some (.int .i64 to.g)
  p2 : c[80]? = some (.int .i64 to.b)
  p3 : c[81]? = some (.int .i64 to.a)
  p4 : c[82]? = some (.int .i64 to.z)
  p5 : c[83]? = some (.int .i64 to.s)
  s0 : c[84]? = some (.int .i64 x0)
  s1 : c[85]? = some (.int .i64 y0)
  s2 : c[86]? = some (.int .i64 x1)
  s3 : c[87]? = some (.int .i64 y1)

attribute [local go_sem] grow_cell grow_frozen grow_setCell
set_option maxHeartbeats 2000000 in
set_option maxRecDepth 100000 in
theorem pixel_clr (c : Array Value) (what : Int) (to : Px) (x0 y0 x1 y1 : Int) (hc : Clr c what to x0 y0 x1 y1) (p : Px) (x y : Int) (hw : ¬ (what < 1 ∨ 7 < what)) (hp : p.ok = true) (ht : to.ok = true) (w : World) :
    Calls Try.prog 11 #[p.val, .agg c, .int .i64 x, .int .i64 y] w fun e w' => e = .returned (if hasPx x0 y0 x1 y1 x y then (clr p what to).val else p.val) ∧ Grew w w' := by
  have HC := Lib.hid (clear_calls p what to hw hp ht)
  have HH := Lib.hid (rectHas_calls x0 y0 x1 y1 x y)
  obtain ⟨z0, z1, z2, z3, z4, z5, z6, z7, z8, z9, z10, z11, z12⟩ := hc
  obtain ⟨_, z1⟩ := Array.getElem?_eq_some_iff.1 z1
  obtain ⟨_, z2⟩ := Array.getElem?_eq_some_iff.1 z2
  obtain ⟨_, z3⟩ := Array.getElem?_eq_some_iff.1 z3
  obtain ⟨_, z4⟩ := Array.getElem?_eq_some_iff.1 z4
  obtain ⟨_, z5⟩ := Array.getElem?_eq_some_iff.1 z5
  obtain ⟨_, z6⟩ := Array.getElem?_eq_some_iff.1 z6
  obtain ⟨_, z7⟩ := Array.getElem?_eq_some_iff.1 z7
  obtain ⟨_, z8⟩ := Array.getElem?_eq_some_iff.1 z8
  obtain ⟨_, z9⟩ := Array.getElem?_eq_some_iff.1 z9
  obtain ⟨_, z10⟩ := Array.getElem?_eq_some_iff.1 z10
  obtain ⟨_, z11⟩ := Array.getElem?_eq_some_iff.1 z11
  obtain ⟨_, z12⟩ := Array.getElem?_eq_some_iff.1 z12
  obtain ⟨r, g, b, a, z, s⟩ := p
  obtain ⟨r', g', b', a', z', s'⟩ := to
  clear hw hp ht
  simp only [Px.val, px, rect] at *
  cases hh : hasPx x0 y0 x1 y1 x y
  all_goals
    rw [hh] at HH
    clear hh
    go_enter Try.func11, Try.ntmps11
    go_wp2_with (first
      | (go_at_call 20; with_reducible refine (HH.out _).mono ?_; rintro e w1 ⟨rfl, hg⟩; obtain ⟨n1, s1, rfl⟩ := hg.ex)
      | (go_at_call 21; with_reducible refine (HC.out _).mono ?_; rintro e w2 ⟨rfl, hg⟩; obtain ⟨n2, s2, rfl⟩ := ((Grew.of _ _).trans hg).ex))
    refine bodyPost_ret (results_cell_row rfl _ _ (w.heap.size + 1 + 1) 34 _ (0, 0) _ (by rfl) (grow_top3 _ _ _ _ _ _) Try.underlying34 rfl (by kernel_rfl)) rfl ?_
    exact ⟨rfl, ((((Grew.refl w).alloc _).alloc _).alloc _).trans (Grew.of _ _)⟩
end Go.Proofs.Ythfmmkgdheemhaa
