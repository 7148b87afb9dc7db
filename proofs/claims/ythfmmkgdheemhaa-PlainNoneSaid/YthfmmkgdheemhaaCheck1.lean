import Derived.Test.YthfmmkgdheemhaaPixel
namespace Go.Proofs.Ythfmmkgdheemhaa
open Go.RowKit
open Go

attribute [local go_sem] grow_cell grow_frozen grow_setCell
def check1 (what : Int) (to : Px) : Int := if what < 1 ∨ 7 < what then 9 else if to.ok then 0 else 3
set_option maxHeartbeats 2000000 in
set_option maxRecDepth 100000 in
theorem check_clr (c : Array Value) (what : Int) (to : Px) (x0 y0 x1 y1 : Int) (hc : Clr c what to x0 y0 x1 y1) (w : World) :
    Calls Try.prog 10 #[.agg c] w fun e w' => e = .returned (.int .i64 (check1 what to)) ∧ Grew w w' := by
  obtain ⟨r', g', b', a', z', s'⟩ := to
  have HR := Lib.hid (fragRight_calls r' g' b' a' z' s')
  obtain ⟨z0, z1, z2, z3, z4, z5, z6, z7, z8, z9, z10, z11, z12⟩ := hc
  obtain ⟨_, z1⟩ := Array.getElem?_eq_some_iff.1 z1
  obtain ⟨_, z2⟩ := Array.getElem?_eq_some_iff.1 z2
  obtain ⟨_, z3⟩ := Array.getElem?_eq_some_iff.1 z3
  obtain ⟨_, z4⟩ := Array.getElem?_eq_some_iff.1 z4
  obtain ⟨_, z5⟩ := Array.getElem?_eq_some_iff.1 z5
  obtain ⟨_, z6⟩ := Array.getElem?_eq_some_iff.1 z6
  obtain ⟨_, z7⟩ := Array.getElem?_eq_some_iff.1 z7
  obtain ⟨_, z8⟩ := Array.getElem?_eq_some_iff.1 z8
  obtain ⟨_, z9⟩ := Array.getElem?_eq_some_iff.1 z9
  obtain ⟨_, z10⟩ := Array.getElem?_eq_some_iff.1 z10
  obtain ⟨_, z11⟩ := Array.getElem?_eq_some_iff.1 z11
  obtain ⟨_, z12⟩ := Array.getElem?_eq_some_iff.1 z12
  simp only [px] at *
  have HS : Hid (check1 what ⟨r', g', b', a', z', s'⟩ = if what < 1 ∨ 7 < what then 9 else if pxOk r' g' b' a' z' s' then 0 else 3) := Lib.hid rfl
  obtain ⟨k, hk⟩ : ∃ k, k = pxOk r' g' b' a' z' s' := ⟨_, rfl⟩
  rw [← hk] at HR HS
  clear hk
  cases k
  all_goals
    go_enter Try.func10, Try.ntmps10
    go_wp2_with (go_at_call 19; with_reducible refine (HR.out _).mono ?_; rintro e w1 ⟨rfl, hg⟩)
    all_goals
      go_ret
      refine ⟨ret_int ?_, ?_⟩
    all_goals first
      | exact (Grew.refl w).alloc _
      | exact ((Grew.refl w).alloc _).trans hg
      | (rw [HS.out]; first | (rw [if_pos (by omega)]) | (rw [if_neg (by omega)]; rfl))
end Go.Proofs.Ythfmmkgdheemhaa
