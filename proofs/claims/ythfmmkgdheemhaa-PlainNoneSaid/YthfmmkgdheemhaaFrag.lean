import Derived.Test.YthfmmkgdheemhaaTint2
namespace Go.Proofs.Ythfmmkgdheemhaa
open Go.RowKit
open Go

theorem deep_calls (z : Int) (w : World) : Calls Try.prog 38 #[.int .i64 z] w fun e w' => e = .returned (.bool (decide (0 ≤ z ∧ z ≤ 65535))) ∧ w = w' := by
  go_enter Try.func38, Try.ntmps38
  go_wp2
  all_goals (go_ret; refine ⟨ret_bool ?_, rfl⟩; grind)

/-- a pixel, as a value -/
def px (r g b a z s : Int) : Value := .agg #[.int .i64 r, .int .i64 g, .int .i64 b, .int .i64 a, .int .i64 z, .int .i64 s]
def pxOk (r g b a z s : Int) : Bool := colOk r g b a && decide (0 ≤ z ∧ z ≤ 65535) && decide (0 ≤ s ∧ s ≤ 255)
set_option maxHeartbeats 2000000 in
set_option maxRecDepth 100000 in
theorem fragRight_calls (r g b a z s : Int) (w : World) : Calls Try.prog 19 #[px r g b a z s] w fun e w' => e = .returned (.bool (pxOk r g b a z s)) ∧ Grew w w' := by
  have H := Lib.hid (tintRight_calls r g b a)
  have HD := Lib.hid (deep_calls z)
  have hspec : pxOk r g b a z s = (colOk r g b a && decide (0 ≤ z ∧ z ≤ 65535) && decide (0 ≤ s ∧ s ≤ 255)) := rfl
  have HS := Lib.hid hspec
  clear hspec
  unfold px
  unfold col at H
  obtain ⟨k, hk⟩ : ∃ k, k = colOk r g b a := ⟨_, rfl⟩
  obtain ⟨d, hd⟩ : ∃ d, d = decide (0 ≤ z ∧ z ≤ 65535) := ⟨_, rfl⟩
  rw [← hk] at H HS
  rw [← hd] at HD HS
  clear hk hd
  cases k <;> cases d
  all_goals
    go_enter Try.func19, Try.ntmps19
    go_wp2_with (first
      | (go_at_call 16; with_reducible refine (H.out _).mono ?_; rintro e w1 ⟨rfl, hg⟩
         have z1 := hg.cell (show (w.alloc (.cells #[.int .i64 r, .int .i64 g, .int .i64 b, .int .i64 a, .int .i64 z, .int .i64 s] 34)).cell? ⟨w.heap.size, 4, none⟩ = some (.int .i64 z) from by simp)
         have s1 := hg.cell (show (w.alloc (.cells #[.int .i64 r, .int .i64 g, .int .i64 b, .int .i64 a, .int .i64 z, .int .i64 s] 34)).cell? ⟨w.heap.size, 5, none⟩ = some (.int .i64 s) from by simp))
      | (go_at_call 38; with_reducible refine (HD.out _).mono ?_; rintro e w2 ⟨rfl, rfl⟩))
    all_goals (go_ret; refine ⟨ret_bool ?_, ((Grew.refl w).alloc _).trans hg⟩; rw [HS.out]; clear HS hg; simp; try omega)
end Go.Proofs.Ythfmmkgdheemhaa
