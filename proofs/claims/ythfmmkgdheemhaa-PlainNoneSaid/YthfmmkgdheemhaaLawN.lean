/- The walk of the law PlainNone. -/
import Derived.Test.YthfmmkgdheemhaaAwake
namespace Go.Proofs.Ythfmmkgdheemhaa
open Go Go.RowKit
attribute [local go_sem] grow_cell grow_frozen grow_setCell

theorem eql_px0 (w : World) : (binOp .eql 34 (.agg #[.int .i64 0, .int .i64 0, .int .i64 0, .int .i64 0, .int .i64 0, .int .i64 0]) (.agg #[.int .i64 0, .int .i64 0, .int .i64 0, .int .i64 0, .int .i64 0, .int .i64 0])).run Try.prog w = .ok (.bool true) w := by kernel_rfl

set_option maxHeartbeats 8000000 in
set_option maxRecDepth 100000 in
theorem none_walk (what x0 y0 x1 y1 : Int) (w : World) : Calls Try.prog 3 #[.int .i64 what, rect x0 y0 x1 y1] w fun e w' => e = .returned (.bool true) ∧ Below w.heap.size w w' := by
  have HR := Lib.hid fun w => read_nil w what x0 y0 x1 y1
  have HA := Lib.hid fun w => at_nil w x0 y0
  have HD := Lib.hid do_nil
  have HW := Lib.hid awake_calls
  have he := eql_px0
  unfold rect noImg at HR
  simp only [noPx, Px.val, px] at HA
  unfold rect
  go_enter Try.func3, Try.ntmps3
  go_wp2_with (first
    | (go_at_call 4; refine (HR.out _).mono ?_; rintro e w1 ⟨rfl, hg1⟩; have HG1 := Lib.hid hg1; have hb1 := hg1.heap (heap_alloc_new _ _); have a0 := cell_of_row w1 _ 0 _ _ _ hb1; have a1 := cell_of_row w1 _ 1 _ _ _ hb1; have l1 := (Array.getElem?_eq_some_iff.1 hb1).1; simp only [List.getElem?_toArray, List.getElem?_cons_zero, List.getElem?_cons_succ] at a0 a1; clear hg1 hb1)
    | (go_at_call 5; refine (HA.out _).mono ?_; rintro e w2 ⟨rfl, hg2⟩; have HG2 := Lib.hid hg2; have hb2 := hg2.heap (heap_alloc_new _ _); have b2 := cell_of_row w2 _ 2 _ _ _ hb2; have l2 := (Array.getElem?_eq_some_iff.1 hb2).1; simp only [List.getElem?_toArray, List.getElem?_cons_zero, List.getElem?_cons_succ] at b2; clear hg2 hb2)
    | (go_at_call 6; refine (HD.out _ _).mono ?_; rintro e w3 ⟨rfl, hg3⟩; have HG3 := Lib.hid hg3; clear hg3)
    | (go_at_call 7; refine (HW.out _).mono ?_; rintro e w4 ⟨rfl, hb4⟩; have HB4 := Lib.hid hb4; clear hb4))
  go_ret
  refine ⟨rfl, ?_⟩
  have g3 : Grew w w3 := ((((((Grew.refl w).alloc _).trans HG1.out).alloc _).trans HG2.out).alloc _).trans HG3.out
  exact g3.below.trans (HB4.out.mono g3.below.size)
end Go.Proofs.Ythfmmkgdheemhaa
