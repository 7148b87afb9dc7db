import Derived.RangeFuncNested
import Derived.RangeFuncBound
import Derived.RangeFuncCalls
import Derived.RangeFuncLeaves
import Derived.Shelf.Abstract
import Derived.Shelf.RegionOpen
import Derived.WalkKit
import Derived.OwnWalkIn
import Derived.TacticsInMore
import Derived.LoopNIn
import Derived.LoopIn
import Derived.Test.YthfmmkgdheemhaaDo
namespace Go.Proofs.Ythfmmkgdheemhaa
open Go Go.RowKit Go.Shelf
attribute [local go_sem] Oper.semAt_some

/-- The points of a rectangle, row by row. -/
def ptAt (x0 y0 : Int) (w k : Nat) : Int × Int := (x0 + ((k % w : Nat) : Int), y0 + ((k / w : Nat) : Int))
def pts (x0 y0 : Int) (w k : Nat) : List (Int × Int) := (List.range k).map (ptAt x0 y0 w)
theorem pts_succ (x0 y0 : Int) (w k : Nat) : pts x0 y0 w (k + 1) = pts x0 y0 w k ++ [ptAt x0 y0 w k] := by simp [pts, List.range_succ]
theorem pts_length (x0 y0 : Int) (w k : Nat) : (pts x0 y0 w k).length = k := by simp [pts]
theorem ptAt_mk (x0 y0 : Int) (w j i : Nat) (hi : i < w) : ptAt x0 y0 w (j * w + i) = (x0 + (i : Int), y0 + (j : Int)) := by
  unfold ptAt
  have h1 : (j * w + i) % w = i := by rw [Nat.mul_comm, Nat.mul_add_mod]; exact Nat.mod_eq_of_lt hi
  have h2 : (j * w + i) / w = j := by rw [Nat.mul_comm, Nat.mul_add_div (by omega), Nat.div_eq_of_lt hi, Nat.add_zero]
  rw [h1, h2]
def ptVal (p : Int × Int) : Array Value := #[.agg #[.int .i64 p.1, .int .i64 p.2]]
def KeepB (B : Nat) (W W' : World) : Prop := W'.heap[B]? = W.heap[B]?

set_option maxRecDepth 100000 in
set_option maxHeartbeats 4000000 in
theorem pixels1_in (n : Nat) (hn : 1 ≤ n) (l Br : Nat) (x0 y0 x1 y1 : Int) (J Jx : List (Int × Int) → World → Prop) (W : World) (wd ht : Nat) (hwd : wd = (x1 - x0).toNat) (hht : ht = (y1 - y0).toNat)
    (hJ : AbidesFrom W.heap.size J)
    (hs : smallR x0 y0 x1 y1 = true)
    (hY : ∀ pre x W1, J pre W1 → pre.length < wd * ht → YieldAt Fence.wide (n - 1) Try.prog l (ptVal x) W1 fun e W' =>
      (e = .returned (.bool true) ∧ J (pre ++ [x]) W' ∧ KeepB Br W1 W') ∨ (e = .returned (.bool false) ∧ Jx (pre ++ [x]) W'))
    (hBr : W.heap[Br]? = some (.cells #[.int .i64 x0, .int .i64 y0, .int .i64 x1, .int .i64 y1] 23)) (h0 : J [] W) :
    CallsIn Fence.wide n Try.prog 14 #[.func (.yield l) #[] #[], .pointer (some ⟨Br, 0, none⟩)] W fun e W' => (∃ v, e = .returned v) ∧
      ((∃ ys, ys = pts x0 y0 wd (wd * ht) ∧ J ys W') ∨ (∃ pre, (∃ k, k ≤ wd * ht ∧ pre = pts x0 y0 wd k) ∧ Jx pre W')) := by
  have w1 : ¬ wd < (x1 - x0).toNat := by omega
  have w2 : ¬ (x1 - x0).toNat < wd := by omega
  have g1 : ¬ ht < (y1 - y0).toNat := by omega
  have g2 : ¬ (y1 - y0).toNat < ht := by omega
  clear hwd hht
  have HS := Lib.hid (isSmall_calls x0 y0 x1 y1)
  rw [hs] at HS
  unfold rect at HS
  have hsm := hs
  simp only [smallR, smallNum, Bool.and_eq_true, decide_eq_true_eq] at hsm
  obtain ⟨⟨⟨⟨a0, a1⟩, b0, b1⟩, c0, c1⟩, d0, d1⟩ := hsm
  refine callsIn_of_wp Try.func14 rfl trivial ?_ rfl
  simp only [Try.ntmps14, List.size_toArray, List.length_cons, List.length_nil, Nat.reduceAdd, Nat.reduceSub, Array.replicate_succ, Array.replicate_zero, List.push_toArray, List.append_toArray, List.nil_append, List.cons_append]
  have cells := fun (V : World) (hV : V.heap[Br]? = some (.cells #[.int .i64 x0, .int .i64 y0, .int .i64 x1, .int .i64 y1] 23)) =>
    (⟨cell_of_row V Br 0 _ _ _ hV, cell_of_row V Br 1 _ _ _ hV, cell_of_row V Br 2 _ _ _ hV, cell_of_row V Br 3 _ _ _ hV⟩ : V.cell? ⟨Br, 0, none⟩ = some (.int .i64 x0) ∧ V.cell? ⟨Br, 1, none⟩ = some (.int .i64 y0) ∧ V.cell? ⟨Br, 2, none⟩ = some (.int .i64 x1) ∧ V.cell? ⟨Br, 3, none⟩ = some (.int .i64 y1))
  have CELLS := Lib.hid cells
  have HBr := Lib.hid hBr
  have HY := Lib.hid hY
  have HJ := Lib.hid hJ
  have H0 := Lib.hid h0
  obtain ⟨r0, r1, r2, r3⟩ := cells W hBr
  clear cells hBr hY hJ h0 hs
  have hbl : Br < W.heap.size := (Array.getElem?_eq_some_iff.1 HBr.out).1
  gi_wp2_with ((refine ⟨trivial, ?_⟩; gi_at_call 15; refine (callsIn_wide.2 (HS.out _)).mono ?_; rintro e w1 ⟨rfl, hg⟩; have hb1 := (hg.below.block Br hbl).trans HBr.out; obtain ⟨q0, q1, q2, q3⟩ := CELLS.out w1 hb1))
  have J0 : Hid (J [] w1) := Lib.hid (HJ.out [] W w1 none H0.out (hg.gb none) (fun r e => by cases e))
  have HB1 := Lib.hid hb1
  clear hg hb1 r0 r1 r2 r3 q0 q1 q2 q3 HJ H0 HS HBr
  gi_loopw [3] (fun y V => ∃ j : Nat, y = .int .i64 (y0 + j) ∧ j ≤ ht ∧ Hid (J (pts x0 y0 wd (j * wd)) V) ∧ Hid (V.heap[Br]? = some (.cells #[.int .i64 x0, .int .i64 y0, .int .i64 x1, .int .i64 y1] 23)))
    (fun y _ => (y1 - intAt y).toNat)
  case atStart => exact ⟨0, by simp, by omega, Lib.hid (by simpa [pts] using J0.out), HB1⟩
  case round =>
    obtain ⟨j, rfl, hj, hJs, hb⟩ := hrel
    obtain ⟨q0, q1, q2, q3⟩ := CELLS.out wr hb.out
    by_cases hlt : y0 + (j : Int) < y1
    · have hjl : j < ht := by omega
      obtain ⟨V, hV⟩ : ∃ V, V = wr := ⟨_, rfl⟩
      rw [← hV]
      rw [← hV] at q0 q1 q2 q3 hJs hb
      clear hV
      have HL := Lib.hid hlt
      gi_wp2
      gi_loopw [4] (fun x V => ∃ i : Nat, x = .int .i64 (x0 + i) ∧ i ≤ wd ∧ Hid (J (pts x0 y0 wd (j * wd + i)) V) ∧ Hid (V.heap[Br]? = some (.cells #[.int .i64 x0, .int .i64 y0, .int .i64 x1, .int .i64 y1] 23)))
        (fun x _ => (x1 - intAt x).toNat)
      case atStart => exact ⟨0, by simp, by omega, hJs, hb⟩
      case round =>
        obtain ⟨i, rfl, hi, hJi, hbi⟩ := hrel
        obtain ⟨q0, q1, q2, q3⟩ := CELLS.out wr hbi.out
        by_cases hlx : x0 + (i : Int) < x1
        · have hil : i < wd := by omega
          have hk : j * wd + i < wd * ht := by
            have : (j + 1) * wd ≤ ht * wd := Nat.mul_le_mul_right _ hjl
            rw [Nat.succ_mul] at this
            rw [Nat.mul_comm wd ht]
            omega
          obtain ⟨fn, tmps, assign, body, hy, hR⟩ := HY.out _ (ptAt x0 y0 wd (j * wd + i)) wr hJi.out (by rw [pts_length]; exact hk)
          rw [← pts_succ] at hR
          rw [ptAt_mk _ _ _ _ _ hil] at hy
          unfold ptVal at hy
          have HR := Lib.hid hR
          clear hR hk
          gi_wp2
          refine HR.out.mono ?_
          rintro e W3 (⟨rfl, hJ3, hk3⟩ | ⟨rfl, hJx3⟩)
          · have HJ3 := Lib.hid hJ3
            have HB3 := Lib.hid ((hk3 : W3.heap[Br]? = wr.heap[Br]?).trans hbi.out)
            clear hJ3 hk3 hy
            gi_wp2
            go_roundw
            case rel => exact ⟨i + 1, by simp; omega, by omega, Lib.hid (by rw [← Nat.add_assoc]; exact HJ3.out), HB3⟩
            case measure => simp [intAt]; omega
          · have HJ3 := Lib.hid hJx3
            clear hJx3 hy
            gi_wp2
            refine bodyPost_ret (results_none rfl _ _ _) rfl ?_
            exact ⟨⟨_, rfl⟩, .inr ⟨_, ⟨j * wd + i + 1, by
              have : (j + 1) * wd ≤ ht * wd := Nat.mul_le_mul_right _ hjl
              rw [Nat.succ_mul] at this
              rw [Nat.mul_comm wd ht]
              omega, rfl⟩, HJ3.out⟩⟩
        · have e : i = wd := by omega
          have HE := Lib.hid e
          clear e
          gi_wp2
          go_roundw
          case rel => exact ⟨j + 1, by simp; omega, by omega, Lib.hid (by have := hJi.out; rw [HE.out] at this; rw [Nat.succ_mul]; exact this), hbi⟩
          case measure => simp [intAt]; omega
    · have e : j = ht := by omega
      have HE := Lib.hid e
      clear e
      gi_wp2
      go_end0
      exact ⟨⟨_, rfl⟩, .inl (by have := hJs.out; rw [HE.out] at this; rw [Nat.mul_comm wd ht]; exact this)⟩
end Go.Proofs.Ythfmmkgdheemhaa
