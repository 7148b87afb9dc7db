/- The contract of (*book).see: a worker that comes to its end. -/
import Derived.Test.YtjknkmidcmiefaaSee
namespace Go.Proofs.Ytjknkmidcmiefaa
open Go.RowKit

set_option maxHeartbeats 2000000 in
theorem see_end (b dm om n : Nat) (k : Bk) (e : Ev) (w : World) (hb : Book w b dm om n k) (hw1 : 1 ≤ e.who) (hw2 : e.who ≤ k.workers) (hwi : I64 e.who) (ho : k.over e.who = 0) (B : Nat) (hB : B ≤ om) (hBw : B ≤ w.heap.size) (hk1 : e.kind = 5) :
    Calls Try.prog 11 #[.pointer (some ⟨b, 0, none⟩), evAgg e] w fun r w' => r = .returned (.int .i64 0) ∧ Book w' b dm om (n + 1) { k with over := upd k.over e.who 1 } ∧ Below B w w' := by
  have HO := Lib.hid ho
  have hlt := hb.cells.lt
  have HBW := Lib.hid hb
  obtain ⟨c0, c1, c2, c3, c4, c5⟩ := hb.cells.cells
  have hl := fun m => ((hb.over.alloc (evBox e)).of_block (w' := (w.alloc (evBox e)).drewN m) rfl).look law3 Try.underlying42 zero3 e.who hwi
  simp only [F3, evBox, ho] at hl
  unfold evAgg
  clear hb
  have hk3 : ¬ 5 < e.kind := by omega
  have d1 : decide (e.who < 1) = false := decide_eq_false (by omega)
  have d2 : decide (k.workers < e.who) = false := decide_eq_false (by omega)
  have hk4 : ¬ e.kind < 1 := by omega
  have ek1 : (e.kind == 1) = false := beq_eq_false_iff_ne.2 (by omega)
  have ek2 : (e.kind == 2) = false := beq_eq_false_iff_ne.2 (by omega)
  have ek3 : (e.kind == 3) = false := beq_eq_false_iff_ne.2 (by omega)
  have ek4 : (e.kind == 4) = false := beq_eq_false_iff_ne.2 (by omega)
  have ek5 : (e.kind == 5) = true := beq_iff_eq.2 hk1
  have HK := Lib.hid hk1
  clear hk1 ho
  go_enter Try.func11, Try.ntmps11
  go_wp2
  go_quiet (fail)
  obtain ⟨q1, rfl⟩ : ∃ q, q = nq := ⟨_, rfl⟩
  go_wp2
  go_quiet (fail)
  obtain ⟨q2, rfl⟩ : ∃ q, q = nq := ⟨_, rfl⟩
  go_wp2
  obtain ⟨V, hV⟩ : ∃ V, V = (w.alloc (.cells #[.int .i64 e.who, .int .i64 e.kind, .int .i64 e.a, .int .i64 e.b] 36)).drewN (q1 + q2) := ⟨_, rfl⟩
  rw [← hV]
  have HV : Book V b dm om n k := by rw [hV]; exact HBW.out.boxed _ _
  have v5 : V.cell? ⟨b, 5, none⟩ = some (.map (some om)) := HV.cells.cells.2.2.2.2.2
  have e0 : V.cell? ⟨w.heap.size, 0, none⟩ = some (.int .i64 e.who) := by
    rw [hV]
    show (w.alloc (.cells #[.int .i64 e.who, .int .i64 e.kind, .int .i64 e.a, .int .i64 e.b] 36)).cell? ⟨w.heap.size, 0, none⟩ = _
    simp
  have hVB : Below B w V := by rw [hV]; exact below_drewN ((Below.refl B w).alloc hBw _) _
  clear hV hl c0 c1 c2 c3 c4 c5
  have hl := (HV.over.drew).look law3 Try.underlying42 zero3 e.who hwi
  obtain ⟨st, w1, _, _, _, hS⟩ := (HV.over.drew).entry law3 Try.underlying42 zero3 e.who hwi
  obtain ⟨w3, _, _, _, w4, hU, hM4, hG4⟩ := hS w1 1 rfl
  simp only [F3, HO.out] at hl hU
  have HR := Lib.hid ((show Book V.drew b dm om n k from ⟨HV.cells, HV.drawn, HV.over, HV.ne⟩).ended hM4 hG4)
  have HB4 := Lib.hid (((hVB.trans (Below.drew (Below.refl B V)))).grown hG4 (show B ≤ V.drew.heap.size from Nat.le_trans hBw hVB.size) (fun k0 e0 => by cases e0; exact hB))
  clear hM4 hG4 hS HV
  go_region
  all_goals (go_wp2; go_ret; exact ⟨rfl, HR.out, HB4.out⟩)

end Go.Proofs.Ytjknkmidcmiefaa
