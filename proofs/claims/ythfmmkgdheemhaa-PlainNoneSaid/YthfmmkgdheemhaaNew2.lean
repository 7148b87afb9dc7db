import Derived.Test.YthfmmkgdheemhaaPut
import Derived.Laws.MakeOwn
namespace Go.Proofs.Ythfmmkgdheemhaa
open Go.RowKit
open Go

theorem infoPx : (Try.prog.info? 34).map (fun i => (i.zero, i.size, decide (i.bytes ≤ 48))) = some (some (.agg #[.int .i64 0, .int .i64 0, .int .i64 0, .int .i64 0, .int .i64 0, .int .i64 0]), 6, true) := by kernel_rfl
def zero6 : Array Value := #[.int .i64 0, .int .i64 0, .int .i64 0, .int .i64 0, .int .i64 0, .int .i64 0]
theorem make_px (n : Nat) (hn : n ≤ 65536) (w : World) : (Instr.makeSlice 59 (.int .i64 (n : Int)) (.int .i64 (n : Int))).run Try.prog w = .ok (.slice (some ⟨w.heap.size, 0, none⟩) n n) (w.alloc (.cells (madeCells zero6 (n * 6)) 34)) := by
  have h := infoPx
  cases hq : Try.prog.info? 34 with
  | none => simp [hq] at h
  | some i =>
    simp [hq] at h
    obtain ⟨h1, h2, h3⟩ := h
    have := run_make (P := Try.prog) w 59 34 i _ Try.underlying59 hq h1 .i64 .i64 (n : Int) (n : Int) (by omega) (by omega) (by
      have : (i.bytes : Int) * (n : Int) ≤ 48 * 65536 := Int.mul_le_mul (by omega) (by omega) (by omega) (by omega)
      omega) (by omega)
    rw [this, h2]
    simp [zero6, Value.cells]
theorem made_at (m q : Nat) (hq : q < m) : (madeCells zero6 m)[q]? = some (.int .i64 0) := by
  have h : ∀ x : Nat, x < 6 → zero6[x]! = .int .i64 0 := by
    intro x hx
    have hx6 : x = 0 ∨ x = 1 ∨ x = 2 ∨ x = 3 ∨ x = 4 ∨ x = 5 := by omega
    rcases hx6 with rfl | rfl | rfl | rfl | rfl | rfl <;> rfl
  unfold madeCells
  simp [hq]
  exact h _ (Nat.mod_lt _ (by decide))
set_option maxHeartbeats 2000000 in
set_option maxRecDepth 100000 in
theorem new_ok (wd ht : Nat) (h1 : 1 ≤ wd) (h2 : wd ≤ 256) (h3 : 1 ≤ ht) (h4 : ht ≤ 256) (w : World) :
    Calls Try.prog 12 #[.int .i64 wd, .int .i64 ht] w fun e w' => ∃ pb B cap, e = .returned (.tuple #[.pointer (some ⟨pb, 0, none⟩), .int .i64 0]) ∧ w.heap.size ≤ pb ∧ w.heap.size ≤ B ∧ Pic w' pb B wd ht cap (fun _ => ⟨0, 0, 0, 0, 65535, 0⟩) ∧ Below w.heap.size w w' := by
  have hn : wd * ht ≤ 65536 := by
    have : wd * ht ≤ 256 * 256 := Nat.mul_le_mul h2 h4
    omega
  have e1 : IntKind.i64.wrap ((wd : Int) * (ht : Int)) = (wd : Int) * (ht : Int) := by
    rw [show (wd : Int) * (ht : Int) = ((wd * ht : Nat) : Int) from by simp]
    generalize wd * ht = q at *
    rw [i64_w q (by omega)]
  have hmk := make_px (wd * ht) hn
  rw [show ((wd * ht : Nat) : Int) = (wd : Int) * (ht : Int) from by simp] at hmk
  have a1 : ¬ (wd : Int) < 1 := by omega
  have a2 : ¬ 256 < (wd : Int) := by omega
  have a3 : ¬ (ht : Int) < 1 := by omega
  have a4 : ¬ 256 < (ht : Int) := by omega
  go_enter Try.func12, Try.ntmps12
  go_wp2
  obtain ⟨V, hV⟩ : ∃ V, V = (w.alloc (.cells (madeCells zero6 (wd * ht * 6)) 34)).alloc (.cells #[.int .i64 wd, .int .i64 ht, .slice (some ⟨w.heap.size, 0, none⟩) (wd * ht) (wd * ht)] 61) := ⟨_, rfl⟩
  rw [← hV]
  have hP0 : Pic V (w.heap.size + 1) w.heap.size wd ht (wd * ht) (fun _ => ⟨0, 0, 0, 0, 0, 0⟩) := by
    have hc : ∀ q, q < wd * ht * 6 → V.cell? ⟨w.heap.size, q, none⟩ = some (.int .i64 0) := by
      intro q hq
      rw [hV, World.cell?_alloc_past _ _ _ (by simp), World.cell?_alloc_at _ _ _ _ rfl]
      exact made_at _ _ hq
    refine ⟨by rw [hV]; simp, by rw [hV]; simp, by rw [hV]; simp, by omega, by rw [hV]; simp, by rw [hV]; simp; omega, fun i hi => ?_, fun j => by rw [hV, World.frozen?_alloc_past _ _ _ (by simp), World.frozen?_alloc_at _ _ _ _ rfl]⟩
    exact ⟨hc _ (by omega), hc _ (by omega), hc _ (by omega), hc _ (by omega), hc _ (by omega), hc _ (by omega)⟩
  have hB0 : Below w.heap.size w V := by rw [hV]; exact (((Grew.refl w).alloc _).alloc _).below
  clear hV hmk
  generalize hN : wd * ht = N at *
  go_loopw [35] (fun v W => ∃ k : Nat, v = .int .i64 k ∧ Hid (k ≤ N) ∧ Hid (Pic W (w.heap.size + 1) w.heap.size wd ht N (fun i => ⟨0, 0, 0, 0, if i < k then 65535 else 0, 0⟩)) ∧ Hid (Below w.heap.size w W)) (fun v _ => N - (intAt v).toNat)
  case atStart => exact ⟨0, rfl, Lib.hid (Nat.zero_le _), Lib.hid (by simpa using hP0), Lib.hid hB0⟩
  case round =>
    obtain ⟨k, rfl, hk, hP, hB⟩ := hrel
    by_cases hlt : k < N
    · have c2 := hP.out.c2
      rw [hN] at c2
      have c4 := (hP.out.px k (by rw [hN]; exact hlt)).2.2.2.2.1
      have f4 := hP.out.fr (k * 6 + 4)
      have hnx := Lib.hid (hP.out.setZ k (by rw [hN]; exact hlt) 65535)
      go_wp2
      go_roundw
      case rel => exact ⟨k + 1, by go_num, Lib.hid hlt, Lib.hid (by
        have := hnx.out
        have e : (fun i => if i = k then ({ r := 0, g := 0, b := 0, a := 0, z := 65535, s := 0 } : Px) else ⟨0, 0, 0, 0, if i < k then 65535 else 0, 0⟩) = (fun i => (⟨0, 0, 0, 0, if i < k + 1 then 65535 else 0, 0⟩ : Px)) := by
          funext i
          by_cases h : i = k
          · simp [h]
          · by_cases h2 : i < k
            · simp [h, h2, show i < k + 1 by omega]
            · simp [h, h2, show ¬ i < k + 1 by omega]
        rw [← e]; exact this), Lib.hid (hB.out.setCell (p := ⟨w.heap.size, k * 6 + 4, none⟩) (Nat.le_refl _) _)⟩
      case measure => simp [intAt]; omega
    · go_wp2
      go_ret2
      have p := hP.out
      refine ⟨w.heap.size + 1, w.heap.size, N, rfl, by omega, Nat.le_refl _, ⟨p.c0, p.c1, p.c2, p.ne, p.lt, p.ltB, fun i hi => ?_, p.fr⟩, hB.out⟩
      have q := p.px i hi
      have hik : i < k := by rw [hN] at hi; omega
      simpa [hik] using q
end Go.Proofs.Ythfmmkgdheemhaa
