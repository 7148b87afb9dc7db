import Derived.Test.YthfmmkgdheemhaaProg
import Derived.Below
import Derived.Tactics
import Derived.WalkKit
import Derived.Deep.QuietTactic
import Derived.BigQuiet
import Derived.WideLaws
import Derived.RowKit
import Derived.RowKit3
import Derived.Lib.Hide
import Derived.Deep.Draws
import Derived.OrdersHeld
import Derived.Deep.RegionWith
import Derived.Deep.RegionHeld3
import Derived.StillTailTactics
import Derived.Shelf.SlSortCmp.QuietGrown
import Derived.Test.YthfmmkgdheemhaaGrew
import Derived.Laws.ResultCell
import Derived.Laws.Rows
/-! Leaves: fix.Sat, tint.Right, frag.deep, frag.Right, rect.Has. -/
namespace Go.Proofs.Ythfmmkgdheemhaa
open Go.RowKit
open Go

theorem ret_int {k : IntKind} {a b : Int} (h : a = b) : Ending.returned (.int k a) = .returned (.int k b) := by rw [h]
theorem ret_bool {a b : Bool} (h : a = b) : Ending.returned (.bool a) = .returned (.bool b) := by rw [h]

def sat (n lo hi : Int) : Int := if n < lo then lo else if hi < n then hi else n
set_option maxHeartbeats 1000000 in
theorem sat_calls (n lo hi : Int) (w : World) : Calls Try.prog 26 #[.int .i64 n, .int .i64 lo, .int .i64 hi] w fun r w' => r = .returned (.int .i64 (sat n lo hi)) ∧ w = w' := by
  go_enter Try.func26, Try.ntmps26
  go_wp2
  all_goals (go_ret; refine ⟨ret_int ?_, rfl⟩; unfold sat; grind)

theorem right1_calls (n m : Int) (w : World) : Calls Try.prog 25 #[.int .i64 n, .int .i64 m] w fun r w' => r = .returned (.int .i64 (sat n 0 255)) ∧ w = w' := by
  have H := Lib.hid (sat_calls n 0 255)
  go_enter Try.func25, Try.ntmps25
  go_wp2_with (go_at_call 26; refine (H.out _).mono ?_; rintro r w1 ⟨rfl, rfl⟩)
  go_ret
  exact ⟨rfl, rfl⟩

def col (r g b a : Int) : Value := .agg #[.int .i64 r, .int .i64 g, .int .i64 b, .int .i64 a]
set_option maxHeartbeats 2000000 in
set_option maxRecDepth 100000 in
theorem each_right (r g b a : Int) (w : World) : Calls Try.prog 24 #[col r g b a, col r g b a, .func (.func 25) #[] #[]] w fun e w' => e = .returned (col (sat r 0 255) (sat g 0 255) (sat b 0 255) (sat a 0 255)) ∧ Grew w w' := by
  have H := Lib.hid (fun n m w => (right1_calls n m w).mono fun _ _ h => (⟨h.1, h.2.symm⟩ : _ ∧ _))
  unfold col
  go_enter Try.func24, Try.ntmps24
  go_wp2
  obtain ⟨V, hV⟩ : ∃ V, V = ((w.alloc (.cells #[.int .i64 r, .int .i64 g, .int .i64 b, .int .i64 a] 32)).alloc (.cells #[.int .i64 r, .int .i64 g, .int .i64 b, .int .i64 a] 32)).alloc (.cells #[.int .i64 0, .int .i64 0, .int .i64 0, .int .i64 0] 32) := ⟨_, rfl⟩
  rw [← hV]
  have c00 : V.cell? ⟨w.heap.size, 0, none⟩ = some (.int .i64 r) := by rw [hV, World.cell?_alloc_past _ _ _ (by simp; omega), World.cell?_alloc_past _ _ _ (by simp), World.cell?_alloc_at _ _ _ _ rfl]; rfl
  have c01 : V.cell? ⟨w.heap.size, 1, none⟩ = some (.int .i64 g) := by rw [hV, World.cell?_alloc_past _ _ _ (by simp; omega), World.cell?_alloc_past _ _ _ (by simp), World.cell?_alloc_at _ _ _ _ rfl]; rfl
  have c02 : V.cell? ⟨w.heap.size, 2, none⟩ = some (.int .i64 b) := by rw [hV, World.cell?_alloc_past _ _ _ (by simp; omega), World.cell?_alloc_past _ _ _ (by simp), World.cell?_alloc_at _ _ _ _ rfl]; rfl
  have c03 : V.cell? ⟨w.heap.size, 3, none⟩ = some (.int .i64 a) := by rw [hV, World.cell?_alloc_past _ _ _ (by simp; omega), World.cell?_alloc_past _ _ _ (by simp), World.cell?_alloc_at _ _ _ _ rfl]; rfl
  have c10 : V.cell? ⟨w.heap.size + 1, 0, none⟩ = some (.int .i64 r) := by rw [hV]; simp [World.cell?_alloc_past, World.cell?_alloc_at]
  have c11 : V.cell? ⟨w.heap.size + 1, 1, none⟩ = some (.int .i64 g) := by rw [hV]; simp [World.cell?_alloc_past, World.cell?_alloc_at]
  have c12 : V.cell? ⟨w.heap.size + 1, 2, none⟩ = some (.int .i64 b) := by rw [hV]; simp [World.cell?_alloc_past, World.cell?_alloc_at]
  have c13 : V.cell? ⟨w.heap.size + 1, 3, none⟩ = some (.int .i64 a) := by rw [hV]; simp [World.cell?_alloc_past, World.cell?_alloc_at]
  have HV := Lib.hid hV
  clear hV
  go_still_tail 24, (by kernel_rfl)
  still_call (H.out _ _ _)
  repeat still_step
  still_call (H.out _ _ _)
  repeat still_step
  still_call (H.out _ _ _)
  repeat still_step
  still_call (H.out _ _ _)
  repeat still_step
  try refine wpStill_nil ?_
  change wpList _ _ _ _ _ V.drew
  rw [HV.out]
  clear HV c00 c01 c02 c03 c10 c11 c12 c13
  go_wp2
  refine bodyPost_ret (results_cell_row rfl _ _ (w.heap.size + 1 + 1) 32 #[.int .i64 (sat r 0 255), .int .i64 (sat g 0 255), .int .i64 (sat b 0 255), .int .i64 (sat a 0 255)] (0, 0) _ (by rfl) (by
    have := heap_alloc_new ((w.alloc (.cells #[.int .i64 r, .int .i64 g, .int .i64 b, .int .i64 a] 32)).alloc (.cells #[.int .i64 r, .int .i64 g, .int .i64 b, .int .i64 a] 32)) (.cells #[.int .i64 (sat r 0 255), .int .i64 (sat g 0 255), .int .i64 (sat b 0 255), .int .i64 (sat a 0 255)] 32)
    simp only [World.size_alloc] at this
    exact this) Try.underlying32 rfl (by kernel_rfl)) rfl ?_
  exact ⟨rfl, ((((Grew.refl w).alloc _).alloc _).alloc _).drew⟩

end Go.Proofs.Ythfmmkgdheemhaa
