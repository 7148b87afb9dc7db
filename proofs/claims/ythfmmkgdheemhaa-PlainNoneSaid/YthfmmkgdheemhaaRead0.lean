import Derived.Test.YthfmmkgdheemhaaPixs2
namespace Go.Proofs.Ythfmmkgdheemhaa
open Go Go.RowKit

theorem grow_top4 (w : World) (A B C D : Obj) (n : Nat) (os : Array Obj) : (Sort.grow (((((w.alloc A).alloc B).alloc C).alloc D).drewN n) os).heap[w.heap.size + 1 + 1 + 1]? = some D := by
  rw [Sort.heap_grow_old _ _ (by simp), World.heap_drewN]
  have := heap_alloc_new (((w.alloc A).alloc B).alloc C) D
  simp only [World.size_alloc] at this
  exact this
def noImg : Value := .agg #[.int .i64 0, .int .i64 0, .slice none 0 0]
set_option maxHeartbeats 2000000 in
set_option maxRecDepth 100000 in
theorem read_nil (w : World) (what x0 y0 x1 y1 : Int) :
    Calls Try.prog 4 #[.pointer none, .int .i64 what, rect x0 y0 x1 y1] w fun e w' => e = .returned (.tuple #[noImg, .int .i64 1]) ∧ Grew w w' := by
  unfold rect
  go_enter Try.func4, Try.ntmps4
  go_wp2
  refine bodyPost_ret (results_cell_row2 rfl _ _ (w.heap.size + 1 + 1 + 1) 27 #[.int .i64 0, .int .i64 0, .slice none 0 0] (0, 0) _ (by rfl) (by simpa using grow_top4 w _ _ _ _ 0 #[]) Try.underlying27 rfl (by kernel_rfl)) rfl ?_
  exact ⟨rfl, ((((Grew.refl w).alloc _).alloc _).alloc _).alloc _⟩
set_option maxHeartbeats 2000000 in
set_option maxRecDepth 100000 in
theorem read_kind (w : World) (pb : Nat) (what x0 y0 x1 y1 : Int) (h : what < 0 ∨ 2 < what) :
    Calls Try.prog 4 #[.pointer (some ⟨pb, 0, none⟩), .int .i64 what, rect x0 y0 x1 y1] w fun e w' => e = .returned (.tuple #[noImg, .int .i64 9]) ∧ Grew w w' := by
  unfold rect
  have hcase : what < 0 ∨ (¬ what < 0 ∧ 2 < what) := by omega
  clear h
  rcases hcase with h1 | ⟨h1, h2⟩
  all_goals
    go_enter Try.func4, Try.ntmps4
    go_wp2
    refine bodyPost_ret (results_cell_row2 rfl _ _ (w.heap.size + 1 + 1 + 1) 27 #[.int .i64 0, .int .i64 0, .slice none 0 0] (0, 0) _ (by rfl) (by simpa using grow_top4 w _ _ _ _ 0 #[]) Try.underlying27 rfl (by kernel_rfl)) rfl ?_
    exact ⟨rfl, ((((Grew.refl w).alloc _).alloc _).alloc _).alloc _⟩
end Go.Proofs.Ythfmmkgdheemhaa
