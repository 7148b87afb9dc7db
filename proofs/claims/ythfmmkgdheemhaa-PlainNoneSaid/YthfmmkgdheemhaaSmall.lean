import Derived.Test.YthfmmkgdheemhaaClear
import Derived.LoopTactic
namespace Go.Proofs.Ythfmmkgdheemhaa
open Go.RowKit
open Go

def intAt : Value → Int
  | .int _ n => n
  | _ => 0
def smallNum (n : Int) : Bool := decide (-1048576 ≤ n ∧ n ≤ 1048576)
def smallR (x0 y0 x1 y1 : Int) : Bool := smallNum x0 && smallNum y0 && smallNum x1 && smallNum y1
set_option maxHeartbeats 2000000 in
set_option maxRecDepth 100000 in
theorem isSmall_calls (x0 y0 x1 y1 : Int) (w : World) : Calls Try.prog 15 #[rect x0 y0 x1 y1] w fun e w' => e = .returned (.bool (smallR x0 y0 x1 y1)) ∧ Grew w w' := by
  unfold rect
  go_enter Try.func15, Try.ntmps15
  go_wp2
  obtain ⟨V, hV⟩ : ∃ V, V = ((w.alloc (.cells #[.int .i64 x0, .int .i64 y0, .int .i64 x1, .int .i64 y1] 23)).alloc (.cells #[.int .i64 x0, .int .i64 y0, .int .i64 x1, .int .i64 y1] 3)) := ⟨_, rfl⟩
  rw [← hV]
  have hG : Hid (Grew w V) := Lib.hid (by rw [hV]; exact ((Grew.refl w).alloc _).alloc _)
  have c0 : V.cell? ⟨w.heap.size + 1, 0, none⟩ = some (.int .i64 x0) := by rw [hV]; simp
  have c1 : V.cell? ⟨w.heap.size + 1, 1, none⟩ = some (.int .i64 y0) := by rw [hV]; simp
  have c2 : V.cell? ⟨w.heap.size + 1, 2, none⟩ = some (.int .i64 x1) := by rw [hV]; simp
  have c3 : V.cell? ⟨w.heap.size + 1, 3, none⟩ = some (.int .i64 y1) := by rw [hV]; simp
  clear hV
  go_loop [15] (fun v => (v = .int .i64 0) ∨ (v = .int .i64 1 ∧ Hid (smallNum x0 = true)) ∨ (v = .int .i64 2 ∧ Hid (smallNum x0 = true ∧ smallNum y0 = true)) ∨ (v = .int .i64 3 ∧ Hid (smallNum x0 = true ∧ smallNum y0 = true ∧ smallNum x1 = true)) ∨ (v = .int .i64 4 ∧ Hid (smallNum x0 = true ∧ smallNum y0 = true ∧ smallNum x1 = true ∧ smallNum y1 = true))) (fun v => 4 - (intAt v).toNat)
  case atStart => exact .inl rfl
  case round =>
    rcases hrel with rfl | ⟨rfl, h⟩ | ⟨rfl, h⟩ | ⟨rfl, h⟩ | ⟨rfl, h⟩
    · by_cases a1 : x0 < -1048576
      · have hn : Hid (smallNum x0 = false) := Lib.hid (decide_eq_false (by omega))
        go_wp2
        go_ret
        exact ⟨ret_bool (by simp [smallR, hn.out]), hG.out⟩
      · by_cases a2 : 1048576 < x0
        · have hn : Hid (smallNum x0 = false) := Lib.hid (decide_eq_false (by omega))
          go_wp2
          go_ret
          exact ⟨ret_bool (by simp [smallR, hn.out]), hG.out⟩
        · have hn : Hid (smallNum x0 = true) := Lib.hid (decide_eq_true (by omega))
          go_wp2
          go_round
          case rel => exact .inr (.inl ⟨rfl, Lib.hid hn.out⟩)
          case measure => simp [intAt]
    · by_cases a1 : y0 < -1048576
      · have hn : Hid (smallNum y0 = false) := Lib.hid (decide_eq_false (by omega))
        go_wp2
        go_ret
        exact ⟨ret_bool (by simp [smallR, hn.out]), hG.out⟩
      · by_cases a2 : 1048576 < y0
        · have hn : Hid (smallNum y0 = false) := Lib.hid (decide_eq_false (by omega))
          go_wp2
          go_ret
          exact ⟨ret_bool (by simp [smallR, hn.out]), hG.out⟩
        · have hn : Hid (smallNum y0 = true) := Lib.hid (decide_eq_true (by omega))
          go_wp2
          go_round
          case rel => exact .inr (.inr (.inl ⟨rfl, Lib.hid ⟨h.out, hn.out⟩⟩))
          case measure => simp [intAt]
    · by_cases a1 : x1 < -1048576
      · have hn : Hid (smallNum x1 = false) := Lib.hid (decide_eq_false (by omega))
        go_wp2
        go_ret
        exact ⟨ret_bool (by simp [smallR, hn.out]), hG.out⟩
      · by_cases a2 : 1048576 < x1
        · have hn : Hid (smallNum x1 = false) := Lib.hid (decide_eq_false (by omega))
          go_wp2
          go_ret
          exact ⟨ret_bool (by simp [smallR, hn.out]), hG.out⟩
        · have hn : Hid (smallNum x1 = true) := Lib.hid (decide_eq_true (by omega))
          go_wp2
          go_round
          case rel => exact .inr (.inr (.inr (.inl ⟨rfl, Lib.hid ⟨h.out.1, h.out.2, hn.out⟩⟩)))
          case measure => simp [intAt]
    · by_cases a1 : y1 < -1048576
      · have hn : Hid (smallNum y1 = false) := Lib.hid (decide_eq_false (by omega))
        go_wp2
        go_ret
        exact ⟨ret_bool (by simp [smallR, hn.out]), hG.out⟩
      · by_cases a2 : 1048576 < y1
        · have hn : Hid (smallNum y1 = false) := Lib.hid (decide_eq_false (by omega))
          go_wp2
          go_ret
          exact ⟨ret_bool (by simp [smallR, hn.out]), hG.out⟩
        · have hn : Hid (smallNum y1 = true) := Lib.hid (decide_eq_true (by omega))
          go_wp2
          go_round
          case rel => exact .inr (.inr (.inr (.inr (⟨rfl, Lib.hid ⟨h.out.1, h.out.2.1, h.out.2.2, hn.out⟩⟩))))
          case measure => simp [intAt]
    · go_wp2
      go_ret
      exact ⟨ret_bool (by simp [smallR, h.out.1, h.out.2.1, h.out.2.2.1, h.out.2.2.2]), hG.out⟩
end Go.Proofs.Ythfmmkgdheemhaa
