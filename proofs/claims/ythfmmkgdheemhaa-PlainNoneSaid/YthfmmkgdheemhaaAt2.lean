import Derived.Test.YthfmmkgdheemhaaAt
namespace Go.Proofs.Ythfmmkgdheemhaa
open Go.RowKit
open Go

set_option maxHeartbeats 2000000 in
set_option maxRecDepth 100000 in
theorem at_nil (w : World) (x y : Int) :
    Calls Try.prog 5 #[.pointer none, .int .i64 x, .int .i64 y] w fun e w' => e = .returned (.tuple #[noPx.val, .bool false]) ∧ Grew w w' := by
  go_enter Try.func5, Try.ntmps5
  go_wp2
  all_goals
    (refine bodyPost_ret (results_cell_row2 rfl _ _ w.heap.size 34 _ (0, 0) _ (by rfl) (heap_alloc_new _ _) Try.underlying34 rfl (by kernel_rfl)) rfl ?_
     exact ⟨rfl, (Grew.refl w).alloc _⟩)

theorem i64_w (q : Nat) (h : q < 9223372036854775808) : IntKind.i64.wrap (q : Int) = (q : Int) := by
  simp [IntKind.wrap, IntKind.bits, IntKind.signed]
  split <;> omega
set_option maxHeartbeats 2000000 in
set_option maxRecDepth 100000 in
theorem at_in (w : World) (pb B wd ht cap : Nat) (pix : Nat → Px) (x y : Nat) (hP : Pic w pb B wd ht cap pix) (hx : x < wd) (hy : y < ht) (hw : wd ≤ 256) (hh : ht ≤ 256) :
    Calls Try.prog 5 #[.pointer (some ⟨pb, 0, none⟩), .int .i64 x, .int .i64 y] w fun e w' => e = .returned (.tuple #[(pix (y * wd + x)).val, .bool true]) ∧ Grew w w' := by
  have c0 := hP.c0
  have c1 := hP.c1
  have c2 := hP.c2
  have hlt := hP.lt
  have hltB := hP.ltB
  have hi : y * wd + x < wd * ht := by
    have : y * wd + wd ≤ ht * wd := by rw [← Nat.succ_mul]; exact Nat.mul_le_mul_right _ hy
    rw [Nat.mul_comm wd ht]; omega
  have hsz : wd * ht ≤ 65536 := by
    have : wd * ht ≤ 256 * 256 := Nat.mul_le_mul hw hh
    omega
  obtain ⟨p0, p1, p2, p3, p4, p5⟩ := hP.px _ hi
  have e1 : IntKind.i64.wrap ((y : Int) * (wd : Int)) = (y : Int) * (wd : Int) := by
    rw [show (y : Int) * (wd : Int) = ((y * wd : Nat) : Int) from by simp]
    generalize y * wd = q at *
    rw [i64_w q (by omega)]
  have e2 : IntKind.i64.wrap ((y : Int) * (wd : Int) + (x : Int)) = ((y * wd + x : Nat) : Int) := by
    rw [show (y : Int) * (wd : Int) = ((y * wd : Nat) : Int) from by simp]
    generalize y * wd = q at *
    rw [show (q : Int) + (x : Int) = ((q + x : Nat) : Int) from by simp, i64_w (q + x) (by omega)]
  obtain ⟨i, hiD⟩ : ∃ i, i = y * wd + x := ⟨_, rfl⟩
  rw [← hiD] at p0 p1 p2 p3 p4 p5 e2 hi ⊢
  obtain ⟨n, hn⟩ : ∃ n, n = wd * ht := ⟨_, rfl⟩
  rw [← hn] at c2 hi hsz
  obtain ⟨p, hp⟩ : ∃ p, p = pix i := ⟨_, rfl⟩
  rw [← hp] at p0 p1 p2 p3 p4 p5 ⊢
  clear hP hiD hn hp
  go_enter Try.func5, Try.ntmps5
  go_wp2
  obtain ⟨V, hV⟩ : ∃ V, V = w.alloc (.cells #[.int .i64 0, .int .i64 0, .int .i64 0, .int .i64 0, .int .i64 0, .int .i64 0] 34) := ⟨_, rfl⟩
  rw [← hV]
  have hG : Grew w V := by rw [hV]; exact (Grew.refl w).alloc _
  have d0 := hG.cell c0
  have d2 := hG.cell c2
  have q0 := hG.cell p0
  have q1 := hG.cell p1
  have q2 := hG.cell p2
  have q3 := hG.cell p3
  have q4 := hG.cell p4
  have q5 := hG.cell p5
  have HV := Lib.hid hV
  clear hV hG c0 c1 c2 p0 p1 p2 p3 p4 p5 hx hy hw hh
  go_still_tail 14, (by kernel_rfl)
  change wpList _ _ _ _ _ V.drew
  rw [HV.out]
  clear HV d0 d2 q0 q1 q2 q3 q4 q5
  go_wp2
  refine bodyPost_ret (results_cell_row2 rfl _ _ w.heap.size 34 _ (0, 0) _ (by rfl) (heap_alloc_new _ _) Try.underlying34 rfl (by kernel_rfl)) rfl ?_
  exact ⟨rfl, ((Grew.refl w).alloc _).drew⟩
end Go.Proofs.Ythfmmkgdheemhaa
