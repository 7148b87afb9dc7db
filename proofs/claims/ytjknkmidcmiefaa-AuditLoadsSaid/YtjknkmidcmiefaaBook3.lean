/- The contract of (*book).steal. -/
import Derived.Test.YtjknkmidcmiefaaBook2
namespace Go.Proofs.Ytjknkmidcmiefaa
open Go.RowKit

theorem quiet_left {P : Program} {f : FuncId} {args : Array Value} {w : World} {n : Nat} {v : Value}
    (h : Calls P f args (w.drewN n) fun e w' => e = .returned v ∧ w.drewN n = w') : Calls P f args (w.drewN n) fun e w'' => e = .returned v ∧ ∃ m, w'' = w.drewN m :=
  h.mono fun _ _ ⟨he, hm⟩ => ⟨he, n, hm.symm⟩

theorem quiet_add_left {P : Program} {f : FuncId} {args : Array Value} {w : World} {a n : Nat} {v : Value}
    (h : Calls P f args (w.drewN (a + n)) fun e w' => e = .returned v ∧ w.drewN (a + n) = w') :
    Calls P f args (w.drewN (a + n)) fun e w'' => e = .returned v ∧ ∃ m, w'' = w.drewN (a + m) :=
  h.mono fun _ _ ⟨he, hm⟩ => ⟨he, n, hm.symm⟩

theorem quot_is {b t : Int} (hb : 0 ≤ b) (hb2 : b ≤ 9223372036854775807) (ht : 1 ≤ t) : IntKind.i64.wrap (b.tdiv t) = b / t := by
  rw [Int.tdiv_eq_ediv_of_nonneg hb, IntKind.wrap_i64]
  have h1 : 0 ≤ b / t := Int.ediv_nonneg hb (by omega)
  have h2 : b / t ≤ b := Int.ediv_le_self _ hb
  omega

set_option maxHeartbeats 2000000 in
theorem steal_range (b dm om : Nat) (k : Bk) (e : Ev) (w : World) (hb : BkCells w b dm om k) (hw : 1 ≤ e.who) (hw2 : e.who ≤ 9223372036854775807) (h : e.a < 0 ∨ k.workers ≤ e.a ∨ e.a = e.who - 1) :
    Calls Try.prog 14 #[.pointer (some ⟨b, 0, none⟩), evAgg e] w fun r w' => r = .returned (.int .i64 3) ∧ Below w.heap.size w w' := by
  have hlt := hb.lt
  obtain ⟨c0, c1, c2, c3, c4, c5⟩ := hb.cells
  unfold evAgg
  clear hb
  by_cases h1 : e.a < 0
  · clear h
    go_enter Try.func14, Try.ntmps14
    go_wp2
    go_quiet (fail)
    go_wp2
    go_ret
    exact ⟨rfl, below_drewN ((Below.refl _ _).alloc (Nat.le_refl _) _) _⟩
  · have d1 : decide (e.a < 0) = false := decide_eq_false h1
    by_cases h2 : k.workers ≤ e.a
    · clear h
      go_enter Try.func14, Try.ntmps14
      go_wp2
      go_quiet (fail)
      go_wp2
      go_ret
      exact ⟨rfl, below_drewN ((Below.refl _ _).alloc (Nat.le_refl _) _) _⟩
    · have d2 : decide (k.workers ≤ e.a) = false := decide_eq_false h2
      have e3 : (e.a == e.who - 1) = true := beq_iff_eq.2 (by omega)
      clear h
      go_enter Try.func14, Try.ntmps14
      go_wp2
      go_quiet (fail)
      go_wp2
      go_ret
      exact ⟨rfl, below_drewN ((Below.refl _ _).alloc (Nat.le_refl _) _) _⟩

set_option maxHeartbeats 2000000 in
theorem steal_form (b dm om : Nat) (k : Bk) (e : Ev) (w : World) (hb : BkCells w b dm om k) (hw : 1 ≤ e.who) (hw2 : e.who ≤ 9223372036854775807) (h1 : 0 ≤ e.a) (h2 : e.a < k.workers) (h3 : ¬ e.a = e.who - 1)
    (ht : 1 ≤ k.tiles) (hf0 : 0 ≤ k.frames) (hf : k.frames ≤ 1000) (hbb : I64 e.b) (h : e.b < 0 ∨ ¬ (0 < k.frames ∧ e.b / k.tiles = k.frames - 1)) :
    Calls Try.prog 14 #[.pointer (some ⟨b, 0, none⟩), evAgg e] w fun r w' => r = .returned (.int .i64 6) ∧ Below w.heap.size w w' := by
  have hlt := hb.lt
  obtain ⟨c0, c1, c2, c3, c4, c5⟩ := hb.cells
  unfold evAgg
  have d1 : decide (e.a < 0) = false := decide_eq_false (by omega)
  have d2 : decide (k.workers ≤ e.a) = false := decide_eq_false (by omega)
  have e3 : (e.a == e.who - 1) = false := beq_eq_false_iff_ne.2 h3
  by_cases h4 : e.b < 0
  · clear h hb h3
    go_enter Try.func14, Try.ntmps14
    go_wp2
    go_quiet (fail)
    go_wp2
    go_quiet (fail)
    go_wp2
    go_ret
    exact ⟨rfl, below_drewN (below_drewN ((Below.refl _ _).alloc (Nat.le_refl _) _) _) _⟩
  · have d4 : decide (e.b < 0) = false := decide_eq_false h4
    obtain ⟨q, hq⟩ : ∃ q, q = e.b / k.tiles := ⟨_, rfl⟩
    have hno := fun W hB => now_no b dm om k q W hB hf0 hf (by rw [hq]; rcases h with h | h; exact absurd h h4; exact h)
    have hb' := Lib.hid (fun o m => hb.of_block (w' := (w.alloc o).drewN m) (Below.heap_alloc w o b hlt))
    have t1 : ¬ k.tiles = 0 := by omega
    have hq1 : IntKind.i64.wrap (e.b.tdiv k.tiles) = q := (quot_is (by omega) hbb.2 ht).trans hq.symm
    clear h hb h3 hq
    go_enter Try.func14, Try.ntmps14
    go_wp2
    go_quiet (fail)
    obtain ⟨q1, rfl⟩ : ∃ q, q = nq := ⟨_, rfl⟩
    go_wp2
    have HQ := Lib.hid hq1
    go_quiet ((go_at_call 15; first | exact quiet_add_left (hno _ (by exact hb'.out _ _)) | exact quiet_left (hno _ (by exact hb'.out _ _))))
    go_wp2
    go_ret
    exact ⟨rfl, below_drewN (below_drewN ((Below.refl _ _).alloc (Nat.le_refl _) _) _) _⟩

set_option maxHeartbeats 2000000 in
theorem steal_ok (b dm om : Nat) (k : Bk) (e : Ev) (w : World) (hb : BkCells w b dm om k) (hw : 1 ≤ e.who) (hw2 : e.who ≤ 9223372036854775807) (h1 : 0 ≤ e.a) (h2 : e.a < k.workers) (h3 : ¬ e.a = e.who - 1)
    (ht : 1 ≤ k.tiles) (hf : k.frames ≤ 1000) (hbb : I64 e.b) (h4 : 0 ≤ e.b) (h5 : 0 < k.frames) (h6 : e.b / k.tiles = k.frames - 1) :
    Calls Try.prog 14 #[.pointer (some ⟨b, 0, none⟩), evAgg e] w fun r w' => r = .returned (.int .i64 0) ∧ Below w.heap.size w w' := by
  have hlt := hb.lt
  obtain ⟨c0, c1, c2, c3, c4, c5⟩ := hb.cells
  unfold evAgg
  have d1 : decide (e.a < 0) = false := decide_eq_false (by omega)
  have d2 : decide (k.workers ≤ e.a) = false := decide_eq_false (by omega)
  have e3 : (e.a == e.who - 1) = false := beq_eq_false_iff_ne.2 h3
  have d4 : decide (e.b < 0) = false := decide_eq_false (by omega)
  obtain ⟨q, hq⟩ : ∃ q, q = e.b / k.tiles := ⟨_, rfl⟩
  have hno := fun W hB => now_yes b dm om k q W hB h5 hf (by rw [hq]; exact h6)
  have hb' := Lib.hid (fun o m => hb.of_block (w' := (w.alloc o).drewN m) (Below.heap_alloc w o b hlt))
  have t1 : ¬ k.tiles = 0 := by omega
  have hq1 : IntKind.i64.wrap (e.b.tdiv k.tiles) = q := (quot_is (by omega) hbb.2 ht).trans hq.symm
  clear hb h3 hq h6
  go_enter Try.func14, Try.ntmps14
  go_wp2
  go_quiet (fail)
  obtain ⟨q1, rfl⟩ : ∃ q, q = nq := ⟨_, rfl⟩
  go_wp2
  go_quiet ((go_at_call 15; first | exact quiet_add_left (hno _ (by exact hb'.out _ _)) | exact quiet_left (hno _ (by exact hb'.out _ _))))
  go_wp2
  go_ret
  exact ⟨rfl, below_drewN (below_drewN ((Below.refl _ _).alloc (Nat.le_refl _) _) _) _⟩

end Go.Proofs.Ytjknkmidcmiefaa
