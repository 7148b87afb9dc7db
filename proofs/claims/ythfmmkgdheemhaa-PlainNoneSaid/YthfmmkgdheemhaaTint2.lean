import Derived.Test.YthfmmkgdheemhaaEqs
namespace Go.Proofs.Ythfmmkgdheemhaa
open Go.RowKit
open Go

theorem mix : Try.prog.follows .mixedOrders = true := by kernel_rfl
def colOk (r g b a : Int) : Bool := decide (0 ≤ r ∧ r ≤ 255 ∧ 0 ≤ g ∧ g ≤ 255 ∧ 0 ≤ b ∧ b ≤ 255 ∧ 0 ≤ a ∧ a ≤ 255)
theorem colOk_eq (r g b a : Int) : colOk r g b a = (r == sat r 0 255 && (g == sat g 0 255 && (b == sat b 0 255 && a == sat a 0 255))) := by
  have h : ∀ n : Int, (n == sat n 0 255) = decide (0 ≤ n ∧ n ≤ 255) := by
    intro n
    unfold sat
    by_cases h1 : n < 0
    · rw [if_pos h1, beq_eq_false_iff_ne.2 (by omega), decide_eq_false (by omega)]
    · rw [if_neg h1]
      by_cases h2 : 255 < n
      · rw [if_pos h2, beq_eq_false_iff_ne.2 (by omega), decide_eq_false (by omega)]
      · rw [if_neg h2, beq_self_eq_true, decide_eq_true (by omega)]
  rw [h, h, h, h]
  unfold colOk
  rw [← Bool.decide_and, ← Bool.decide_and, ← Bool.decide_and]
  congr 1
  apply propext
  constructor <;> (intro hh; omega)
set_option maxHeartbeats 2000000 in
set_option maxRecDepth 100000 in
theorem tintRight_calls (r g b a : Int) (w : World) : Calls Try.prog 16 #[col r g b a] w fun e w' => e = .returned (.bool (colOk r g b a)) ∧ Grew w w' := by
  have H := Lib.hid (each_right r g b a)
  unfold col at H ⊢
  go_enter Try.func16, Try.ntmps16
  go_wp2
  obtain ⟨V, hV⟩ : ∃ V, V = w.alloc (.cells #[.int .i64 r, .int .i64 g, .int .i64 b, .int .i64 a] 32) := ⟨_, rfl⟩
  rw [← hV]
  have c0 : ∀ n os, (Sort.grow (V.drewN n) os).cell? ⟨w.heap.size, 0, none⟩ = some (.int .i64 r) := cell_grown (by rw [hV]; simp) (by rw [hV]; simp)
  have c1 : ∀ n os, (Sort.grow (V.drewN n) os).cell? ⟨w.heap.size, 1, none⟩ = some (.int .i64 g) := cell_grown (by rw [hV]; simp) (by rw [hV]; simp)
  have c2 : ∀ n os, (Sort.grow (V.drewN n) os).cell? ⟨w.heap.size, 2, none⟩ = some (.int .i64 b) := cell_grown (by rw [hV]; simp) (by rw [hV]; simp)
  have c3 : ∀ n os, (Sort.grow (V.drewN n) os).cell? ⟨w.heap.size, 3, none⟩ = some (.int .i64 a) := cell_grown (by rw [hV]; simp) (by rw [hV]; simp)
  have hG : Grew w V := by rw [hV]; exact (Grew.refl w).alloc _
  clear hV
  have hmix := mix
  have hE := run_eql_col r g b a (sat r 0 255) (sat g 0 255) (sat b 0 255) (sat a 0 255)
  have hgd := colGuard
  go_quiet_grown ((go_at_call 24; refine Grew.call (H.out _)))
  obtain ⟨q1, rfl⟩ : ∃ q, q = nq := ⟨_, rfl⟩
  obtain ⟨s1, rfl⟩ : ∃ q, q = osq := ⟨_, rfl⟩
  go_wp2
  go_ret
  exact ⟨ret_bool (colOk_eq r g b a).symm, hG.trans ⟨⟨q1, s1⟩, rfl⟩⟩
end Go.Proofs.Ythfmmkgdheemhaa
