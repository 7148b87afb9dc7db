import Derived.Test.YthfmmkgdheemhaaFrag
namespace Go.Proofs.Ythfmmkgdheemhaa
open Go.RowKit
open Go

def rect (x0 y0 x1 y1 : Int) : Value := .agg #[.int .i64 x0, .int .i64 y0, .int .i64 x1, .int .i64 y1]
def hasPx (x0 y0 x1 y1 x y : Int) : Bool := decide (x0 ≤ x ∧ x < x1 ∧ y0 ≤ y ∧ y < y1)
set_option maxHeartbeats 2000000 in
theorem rectHas_calls (x0 y0 x1 y1 x y : Int) (w : World) : Calls Try.prog 20 #[rect x0 y0 x1 y1, .int .i64 x, .int .i64 y] w fun e w' => e = .returned (.bool (hasPx x0 y0 x1 y1 x y)) ∧ Grew w w' := by
  have HS : Hid (hasPx x0 y0 x1 y1 x y = decide (x0 ≤ x ∧ x < x1 ∧ y0 ≤ y ∧ y < y1)) := Lib.hid rfl
  unfold rect
  go_enter Try.func20, Try.ntmps20
  go_wp2
  all_goals (go_ret; refine ⟨ret_bool ?_, (Grew.refl w).alloc _⟩; rw [HS.out]; clear HS; grind)

/-- a pixel as a Lean structure -/
structure Px where
  (r g b a z s : Int)
def Px.val (p : Px) : Value := px p.r p.g p.b p.a p.z p.s
def Px.ok (p : Px) : Bool := pxOk p.r p.g p.b p.a p.z p.s
/-- what Clear makes of a pixel where all may be -/
def clr (p : Px) (what : Int) (to : Px) : Px :=
  let c1 := what % 2 = 1
  let c2 := what / 2 % 2 = 1
  let c4 := what / 4 % 2 = 1
  ⟨if c1 then to.r else p.r, if c1 then to.g else p.g, if c1 then to.b else p.b, if c1 then to.a else p.a, if c2 then to.z else p.z, if c4 then to.s else p.s⟩
def noPx : Px := ⟨0, 0, 0, 0, 0, 0⟩
def clearP (p : Px) (what : Int) (to : Px) : Px := if what < 1 ∨ 7 < what then noPx else if p.ok && to.ok then clr p what to else noPx
def clearE (p : Px) (what : Int) (to : Px) : Int := if what < 1 ∨ 7 < what then 9 else if p.ok && to.ok then 0 else 3

attribute [local go_sem] grow_cell grow_frozen grow_setCell
set_option maxHeartbeats 2000000 in
set_option maxRecDepth 100000 in
theorem clear_calls (p : Px) (what : Int) (to : Px) (hw : ¬ (what < 1 ∨ 7 < what)) (hp : p.ok = true) (ht : to.ok = true) (w : World) :
    Calls Try.prog 21 #[p.val, .int .i64 what, to.val] w fun e w' => e = .returned (.tuple #[(clr p what to).val, .int .i64 0]) ∧ Grew w w' := by
  obtain ⟨r, g, b, a, z, s⟩ := p
  obtain ⟨r', g', b', a', z', s'⟩ := to
  have H1 := Lib.hid (fragRight_calls r g b a z s)
  have H2 := Lib.hid (fragRight_calls r' g' b' a' z' s')
  simp only [Px.ok] at hp ht
  rw [hp] at H1
  rw [ht] at H2
  clear hp ht
  have hcase : what = 1 ∨ what = 2 ∨ what = 3 ∨ what = 4 ∨ what = 5 ∨ what = 6 ∨ what = 7 := by omega
  clear hw
  simp only [Px.val, px] at *
  rcases hcase with rfl | rfl | rfl | rfl | rfl | rfl | rfl
  all_goals
    go_enter Try.func21, Try.ntmps21
    go_wp2_with (first
      | (go_at_call 19; with_reducible refine (H1.out _).mono ?_; rintro e w1 ⟨rfl, hg⟩; obtain ⟨n1, s1, rfl⟩ := hg.ex)
      | (go_at_call 19; with_reducible refine (H2.out _).mono ?_; rintro e w2 ⟨rfl, hg⟩; obtain ⟨n2, s2, rfl⟩ := ((Grew.of _ _).trans hg).ex))
    refine bodyPost_ret (results_cell_row2 rfl _ _ (w.heap.size + 1 + 1) 34 _ (0, 0) _ (by rfl) (grow_top3 _ _ _ _ _ _) Try.underlying34 rfl (by kernel_rfl)) rfl ?_
    exact ⟨rfl, ((((Grew.refl w).alloc _).alloc _).alloc _).trans (Grew.of _ _)⟩
end Go.Proofs.Ythfmmkgdheemhaa
