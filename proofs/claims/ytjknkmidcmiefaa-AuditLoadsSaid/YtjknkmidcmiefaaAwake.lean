/- The contract of the law's awake. -/
import Derived.Test.YtjknkmidcmiefaaRwrong
import Derived.Test.YtjknkmidcmiefaaLoads
namespace Go.Proofs.Ytjknkmidcmiefaa
open Go.RowKit

def aw3 : List Ev := [⟨1, 1, 0, 0⟩, ⟨1, 2, 0, 3⟩, ⟨2, 2, 0, 3⟩]
def aw1 : List Ev := [⟨2, 2, 0, 0⟩]

theorem aw3_wrongs : wrongs (bk0 2 4) aw3 0 = (2, 4) := by
  have s1 : (bk0 2 4).see ⟨1, 1, 0, 0⟩ = 0 := by decide
  have n1 : (bk0 2 4).next ⟨1, 1, 0, 0⟩ = ⟨2, 4, 1, true, fun _ => 0, fun _ => 0⟩ := by unfold Bk.next bk0; rfl
  have s2 : (⟨2, 4, 1, true, fun _ => 0, fun _ => 0⟩ : Bk).see ⟨1, 2, 0, 3⟩ = 0 := by decide
  have n2 : (⟨2, 4, 1, true, fun _ => 0, fun _ => 0⟩ : Bk).next ⟨1, 2, 0, 3⟩ = ⟨2, 4, 1, true, upd (fun _ => 0) (0, 3) 1, fun _ => 0⟩ := by unfold Bk.next; rfl
  have s3 : (⟨2, 4, 1, true, upd (fun _ => 0) (0, 3) 1, fun _ => 0⟩ : Bk).see ⟨2, 2, 0, 3⟩ = 4 := by
    have h := upd_same (fun _ : Int × Int => (0 : Int)) (0, 3) 1
    unfold Bk.see
    simp only [h]
    decide
  unfold aw3
  simp only [wrongs, s1, n1, s2, n2, s3]
  decide

theorem evOk_small (a b c d : Int) (h : 0 ≤ a ∧ a ≤ 9 ∧ 0 ≤ b ∧ b ≤ 9 ∧ 0 ≤ c ∧ c ≤ 9 ∧ 0 ≤ d ∧ d ≤ 9) : EvOk ⟨a, b, c, d⟩ := by
  constructor <;> (unfold I64; simp only []; omega)

theorem aw3_ok : ∀ e ∈ aw3, EvOk e := by
  intro e he
  simp only [aw3, List.mem_cons, List.not_mem_nil, or_false] at he
  rcases he with rfl | rfl | rfl <;> exact evOk_small _ _ _ _ (by omega)

theorem aw3_at (w : World) : EvsAt (w.alloc (.cells #[.int .i64 1, .int .i64 1, .int .i64 0, .int .i64 0, .int .i64 1, .int .i64 2, .int .i64 0, .int .i64 3, .int .i64 2, .int .i64 2, .int .i64 0, .int .i64 3] 36)) (some ⟨w.heap.size, 0, none⟩) aw3 := by
  intro i hi
  refine ⟨_, rfl, ?_⟩
  have hi3 : i < 3 := hi
  match i, hi3 with
  | 0, _ => simp [aw3, Addr.add]
  | 1, _ => simp [aw3, Addr.add]
  | 2, _ => simp [aw3, Addr.add]

theorem aw1_at (w : World) : EvsAt (w.alloc (.cells #[.int .i64 2, .int .i64 2, .int .i64 0, .int .i64 0] 36)) (some ⟨w.heap.size, 0, none⟩) aw1 := by
  intro i hi
  refine ⟨_, rfl, ?_⟩
  have hi3 : i < 1 := hi
  match i, hi3 with
  | 0, _ => simp [aw1, Addr.add]

set_option maxHeartbeats 2000000 in
theorem awake_calls (w : World) : Calls Try.prog 5 #[] w fun r w' => r = .returned (.bool true) ∧ Below w.heap.size w w' := by
  have hw := wrong_calls (some ⟨w.heap.size, 0, none⟩) 3 aw3 2 4 _ (aw3_at w) (by decide) aw3_ok (by omega) (by omega)
  rw [aw3_wrongs] at hw
  have HW := Lib.hid hw
  have hl := fun W => loads_good (some ⟨W.heap.size, 0, none⟩) 1 aw1 2 _ (aw1_at W) (by decide) (by omega) (by omega)
  have HLd := Lib.hid hl
  clear hw hl
  go_enter Try.func5, Try.ntmps5
  go_wp2_with (go_at_call 6; refine HW.out.mono ?_; rintro r w1 ⟨rfl, hb1⟩)
  refine (HLd.out w1).mono ?_
  rintro r w2 ⟨rfl, hr2, hb2⟩
  have hc := hr2.cell (i := 4) (by omega)
  rw [show loadCell aw1 4 = .int .i64 1 from rfl] at hc
  simp only [World.size_alloc] at hc
  have HB1 := Lib.hid hb1
  have HB2 := Lib.hid hb2
  clear hr2 hb1 hb2
  go_wp2
  go_ret
  have k1 : Below w.heap.size w w1 := ((Below.refl w.heap.size w).alloc (Nat.le_refl _) _).trans (HB1.out.mono (by simp))
  exact ⟨rfl, (k1.alloc k1.size _).trans (HB2.out.mono (Nat.le_trans k1.size (by simp)))⟩

end Go.Proofs.Ytjknkmidcmiefaa
