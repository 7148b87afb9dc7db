import Derived.Test.YthfmmkgdheemhaaAwake0
namespace Go.Proofs.Ythfmmkgdheemhaa
open Go Go.RowKit
attribute [local go_sem] grow_cell grow_frozen grow_setCell

theorem listA : (pts 0 0 2 (2 * 1)).map (fun p => Value.int .i64 (shown 0 (lookPx 2 1 (fun i => clrPf 1 ⟨0, 0, 0, 9, 0, 0⟩ 1 0 2 1 ⟨0, 0, 0, 0, 65535, 0⟩ (i % 2) (i / 2)) p.1 p.2))) = [0, 9].map (Value.int .i64) := rfl

theorem ints09 (W : World) : IntsAt (W.alloc (.cells #[.int .i64 0, .int .i64 9] 3)) (some ⟨W.heap.size, 0, none⟩) [0, 9] := by
  intro i hi
  have h2 : i < 2 := hi
  have h : i = 0 ∨ i = 1 := by omega
  rcases h with rfl | rfl
  · exact ⟨_, _, rfl, by simp⟩
  · exact ⟨_, _, rfl, by simp⟩
set_option maxHeartbeats 8000000 in
set_option maxRecDepth 100000 in
theorem awake_calls (w : World) : Calls Try.prog 7 #[] w fun e w' => e = .returned (.bool true) ∧ Below w.heap.size w w' := by
  have HN : Hid (∀ w, Calls Try.prog 12 #[.int .i64 2, .int .i64 1] w fun e w' => ∃ pb B cap, e = .returned (.tuple #[.pointer (some ⟨pb, 0, none⟩), .int .i64 0]) ∧ w.heap.size ≤ pb ∧ w.heap.size ≤ B ∧ Pic w' pb B 2 1 cap (fun _ => ⟨0, 0, 0, 0, 65535, 0⟩) ∧ Below w.heap.size w w') :=
    Lib.hid fun w => new_ok 2 1 (by omega) (by omega) (by omega) (by omega) w
  have HD := Lib.hid doA
  have HR : Hid (∀ w pb B cap, Pic w pb B 2 1 cap (fun i => clrPf 1 ⟨0, 0, 0, 9, 0, 0⟩ 1 0 2 1 ⟨0, 0, 0, 0, 65535, 0⟩ (i % 2) (i / 2)) → Calls Try.prog 4 #[.pointer (some ⟨pb, 0, none⟩), .int .i64 0, .agg #[.int .i64 0, .int .i64 0, .int .i64 2, .int .i64 1]] w
      fun e w' => ∃ A cap, e = .returned (.tuple #[.agg #[.int .i64 2, .int .i64 1, .slice A 2 cap], .int .i64 0]) ∧ IntsAt w' A [0, 9] ∧ Below w.heap.size w w') :=
    Lib.hid fun w pb B cap hP => (read_ok w pb B 2 1 cap _ hP (by omega) (by omega) (fun i hi => by
      have : i = 0 ∨ i = 1 := by omega
      rcases this with rfl | rfl <;> decide) 0 0 0 2 1 (by omega) (by omega) (by unfold inPic; omega) 2 1 (by decide) (by decide)).mono fun e w' ⟨v, he, hr, hb⟩ => by
        rw [listA] at hr
        obtain ⟨A, cap, rfl⟩ := ownsRow_len hr
        exact ⟨A, cap, he, ownsRow_ints (l := [0, 9]) hr, hb⟩
  unfold primA at HD
  go_enter Try.func7, Try.ntmps7
  go_wp2_with (first
    | (go_at_call 12; refine (HN.out _).mono ?_; rintro e w1 ⟨pb, B, cap, rfl, hpb, hBB, hP1, hb1⟩; have HP1 := Lib.hid hP1; have HB1 := Lib.hid hb1; clear hP1 hb1)
    | (go_at_call 6; refine (HD.out _ _ _ _ HP1.out).mono ?_; rintro e w2 ⟨rfl, hP2, hg2⟩; have HP2 := Lib.hid hP2; have HG2 := Lib.hid hg2; clear hP2 hg2)
    | (go_at_call 4; refine (HR.out _ _ _ _ HP2.out).mono ?_; rintro e w3 ⟨A, cap3, rfl, hI3, hb3⟩; have HI3 := Lib.hid hI3; have HB3 := Lib.hid hb3; clear hI3 hb3)
    | (go_at_call 13; have hB := ints09 (w3.alloc (.cells #[.int .i64 2, .int .i64 1, .slice A 2 cap3] 27)); rw [World.size_alloc] at hB; refine (alike_same _ _ _ _ [0, 9] [0, 9] rfl (by decide) _ (HI3.out.grew (((Grew.refl w3).alloc _).alloc _)) hB).mono ?_; rintro e w4 ⟨rfl, hg4⟩; have HG4 := Lib.hid hg4; clear hg4 hB))
  go_ret
  refine ⟨rfl, ?_⟩
  have hb2 : Below w.heap.size w w2 := Below.gb HB1.out HG2.out HB1.out.size hBB
  have hb3 : Below w.heap.size w w3 := hb2.trans (HB3.out.mono hb2.size)
  have g4 : Grew w3 w4 := (((Grew.refl w3).alloc _).alloc _).trans HG4.out
  exact hb3.trans (g4.below.mono hb3.size)
end Go.Proofs.Ythfmmkgdheemhaa
