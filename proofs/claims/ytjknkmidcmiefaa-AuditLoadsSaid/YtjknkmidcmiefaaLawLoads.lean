/- The walk of the law AuditLoads. -/
import Derived.Test.YtjknkmidcmiefaaAwake
import Derived.Test.YtjknkmidcmiefaaSpan
namespace Go.Proofs.Ytjknkmidcmiefaa
open Go.RowKit

theorem spRes_yes {frame : Int} {l : List Ev} (h : 0 ≤ (spAt frame l l.length).2) : spRes frame l = .tuple #[.int .i64 (spAt frame l l.length).1, .int .i64 (spAt frame l l.length).2, .bool true] := by unfold spRes; rw [if_pos h]
theorem spRes_no {frame : Int} {l : List Ev} (h : ¬ 0 ≤ (spAt frame l l.length).2) : spRes frame l = .tuple #[.int .i64 0, .int .i64 0, .bool false] := by unfold spRes; rw [if_neg h]

set_option maxHeartbeats 2000000 in
theorem auditLoads_long (A : Option Addr) (c : Nat) (l : List Ev) (workers frame : Int) (w : World) (h1 : 100 < l.length) (hm : l.length ≤ 9223372036854775807) :
    Calls Try.prog 4 #[.slice A l.length c, .int .i64 workers, .int .i64 frame] w fun r w' => r = .returned (.bool true) ∧ Below w.heap.size w w' := by
  have haw := Lib.hid (awake_calls w)
  go_enter Try.func4, Try.ntmps4
  go_wp2_with (go_at_call 5; refine haw.out.mono ?_; rintro r w1 ⟨rfl, hb1⟩)
  go_ret
  exact ⟨rfl, hb1⟩

section
variable {frame : Int} {e : Ev} {k : Nat} {p : Int × Int}
theorem sq_from (h : (e.a != frame) = false) (h2 : p.1 < 0) (h1 : (e.kind == 1) = true) : spStep frame e k p = ((k : Int), p.2) := sp_from h (beq_iff_eq.1 h1) h2
theorem sq_early (h : (e.a != frame) = false) (h2 : p.1 < 0) (h1 : (e.kind == 1) = false) : spStep frame e k p = p := sp_early h (beq_eq_false_iff_ne.1 h1) h2
theorem sq_to (h : (e.a != frame) = false) (h3 : 0 ≤ p.1) (h4 : p.2 < 0) (h2 : (e.kind == 4) = true) : spStep frame e k p = (p.1, (k : Int)) := by
  have := beq_iff_eq.1 h2
  exact sp_to h (by omega) this h3 h4
theorem sq_keep (h : (e.a != frame) = false) (h3 : 0 ≤ p.1) (h2 : (e.kind == 4) = false) : spStep frame e k p = p := by
  have := beq_eq_false_iff_ne.1 h2
  unfold spStep; rw [if_pos (by simpa using h), if_neg (by omega), if_neg (by omega)]
theorem sq_done (h : (e.a != frame) = false) (h3 : 0 ≤ p.1) (h4 : ¬ p.2 < 0) : spStep frame e k p = p := by
  unfold spStep; rw [if_pos (by simpa using h), if_neg (by omega), if_neg (by omega)]
end

theorem int_eq {k : IntKind} {a b : Int} (h : a = b) : Value.int k a = .int k b := by rw [h]

set_option maxHeartbeats 4000000 in
theorem auditLoads_bad (A : Option Addr) (c : Nat) (l : List Ev) (workers frame : Int) (w : World) (hl : EvsAt w A l) (h1 : l.length ≤ 100) (hw : workers < 1 ∨ 64 < workers) :
    Calls Try.prog 4 #[.slice A l.length c, .int .i64 workers, .int .i64 frame] w fun r w' => r = .returned (.bool true) ∧ Below w.heap.size w w' := by
  have HL := Lib.hid hl
  have H8 := Lib.hid (loads_bad A c l workers w hw)
  have AW := Lib.hid awake_calls
  have h9 := span_calls A c l frame w hl h1
  clear hl
  by_cases hsp : 0 ≤ (spAt frame l l.length).2
  · rw [spRes_yes hsp] at h9
    have H9 := Lib.hid h9
    clear h9
    go_enter Try.func4, Try.ntmps4
    go_wp2_with (first | (go_at_call 8; refine H8.out.mono ?_; rintro r w1 ⟨rfl, rfl⟩) | (go_at_call 9; refine H9.out.mono ?_; rintro r w1 ⟨rfl, hb1⟩; have HB1 := Lib.hid hb1; clear hb1))
    have HE1 := Lib.hid (HL.out.below HB1.out)
    go_loop [12, 13, 14] (fun f t i => ∃ k : Nat, k ≤ l.length ∧ i = .int .i64 k ∧ f = .int .i64 (spAt frame l k).1 ∧ t = .int .i64 (spAt frame l k).2) (fun _ _ i => l.length - (intOf i).toNat)
    case atStart => exact ⟨0, Nat.zero_le _, rfl, rfl, rfl⟩
    case round =>
      obtain ⟨k, hk, rfl, rfl, rfl⟩ := hrel
      have hbd := spAt_bd frame l k
      by_cases hlt : k < l.length
      · obtain ⟨ad, rfl, c0, c1, c2, c3⟩ := (HE1.out k hlt)
        have hs := spAt_succ frame l k hlt
        have HS := Lib.hid hs
        clear hs
        go_wp2
        all_goals
          have hs := HS.out
          (first | rw [sp_out ‹_›] at hs | rw [sq_from ‹_› ‹_› ‹_›] at hs | rw [sq_early ‹_› ‹_› ‹_›] at hs | rw [sq_to ‹_› ‹_› ‹_› ‹_›] at hs | rw [sq_keep ‹_› ‹_› ‹_›] at hs | rw [sq_done ‹_› ‹_› ‹_›] at hs)
          go_round
          case rel => exact ⟨k + 1, by omega, by go_num, by rw [hs], by rw [hs]⟩
          case measure => simp [intOf]; omega
      · obtain rfl : k = l.length := by omega
        go_wp2_with (go_at_call 5; refine (AW.out _).mono ?_; rintro r w3 ⟨rfl, hb3⟩)
        all_goals (go_ret; exact ⟨rfl, HB1.out.trans (hb3.mono HB1.out.size)⟩)
  · rw [spRes_no hsp] at h9
    have H9 := Lib.hid h9
    clear h9
    go_enter Try.func4, Try.ntmps4
    go_wp2_with (first | (go_at_call 8; refine H8.out.mono ?_; rintro r w1 ⟨rfl, rfl⟩) | (go_at_call 9; refine H9.out.mono ?_; rintro r w1 ⟨rfl, hb1⟩; have HB1 := Lib.hid hb1; clear hb1))
    have HE1 := Lib.hid (HL.out.below HB1.out)
    go_loop [12, 13, 14] (fun f t i => ∃ k : Nat, k ≤ l.length ∧ i = .int .i64 k ∧ f = .int .i64 (spAt frame l k).1 ∧ t = .int .i64 (spAt frame l k).2) (fun _ _ i => l.length - (intOf i).toNat)
    case atStart => exact ⟨0, Nat.zero_le _, rfl, rfl, rfl⟩
    case round =>
      obtain ⟨k, hk, rfl, rfl, rfl⟩ := hrel
      have hbd := spAt_bd frame l k
      by_cases hlt : k < l.length
      · obtain ⟨ad, rfl, c0, c1, c2, c3⟩ := (HE1.out k hlt)
        have hs := spAt_succ frame l k hlt
        have HS := Lib.hid hs
        clear hs
        go_wp2
        all_goals
          have hs := HS.out
          (first | rw [sp_out ‹_›] at hs | rw [sq_from ‹_› ‹_› ‹_›] at hs | rw [sq_early ‹_› ‹_› ‹_›] at hs | rw [sq_to ‹_› ‹_› ‹_› ‹_›] at hs | rw [sq_keep ‹_› ‹_› ‹_›] at hs | rw [sq_done ‹_› ‹_› ‹_›] at hs)
          go_round
          case rel => exact ⟨k + 1, by omega, by go_num, by rw [hs], by rw [hs]⟩
          case measure => simp [intOf]; omega
      · obtain rfl : k = l.length := by omega
        go_wp2_with (go_at_call 5; refine (AW.out _).mono ?_; rintro r w3 ⟨rfl, hb3⟩)
        all_goals (go_ret; exact ⟨rfl, HB1.out.trans (hb3.mono HB1.out.size)⟩)

set_option maxHeartbeats 8000000 in
theorem auditLoads_good (A : Option Addr) (c : Nat) (l : List Ev) (n : Nat) (frame : Int) (w : World) (hl : EvsAt w A l) (h1 : l.length ≤ 100) (hw1 : 1 ≤ n) (hw2 : n ≤ 64) :
    Calls Try.prog 4 #[.slice A l.length c, .int .i64 n, .int .i64 frame] w fun r w' => r = .returned (.bool true) ∧ Below w.heap.size w w' := by
  have HL := Lib.hid hl
  have H8 := Lib.hid (loads_good A c l n w hl h1 hw1 hw2)
  have AW := Lib.hid awake_calls
  have h9 := fun W hW => span_calls A c l frame W hW h1
  clear hl
  by_cases hsp : 0 ≤ (spAt frame l l.length).2
  · rw [spRes_yes hsp] at h9
    have H9 := Lib.hid h9
    clear h9
    go_enter Try.func4, Try.ntmps4
    go_wp2_with (first | (go_at_call 8; refine H8.out.mono ?_; rintro r w0 ⟨rfl, hr0, hb0⟩; have HR0 := Lib.hid hr0; have HB0 := Lib.hid hb0; clear hr0 hb0) | (go_at_call 9; refine (H9.out _ (HL.out.below HB0.out)).mono ?_; rintro r w1 ⟨rfl, hb1⟩; have HB1 := Lib.hid hb1; clear hb1))
    have HE1 := Lib.hid ((HL.out.below HB0.out).below HB1.out)
    have HG := Lib.hid (HR0.out.of_block (HB1.out.block _ HR0.out.lt))
    have HBW := Lib.hid (HB0.out.trans (HB1.out.mono HB0.out.size))
    go_loop [12, 13, 14] (fun f t i => ∃ k : Nat, k ≤ l.length ∧ i = .int .i64 k ∧ f = .int .i64 (spAt frame l k).1 ∧ t = .int .i64 (spAt frame l k).2) (fun _ _ i => l.length - (intOf i).toNat)
    case atStart => exact ⟨0, Nat.zero_le _, rfl, rfl, rfl⟩
    case round =>
      obtain ⟨k, hk, rfl, rfl, rfl⟩ := hrel
      have hbd := spAt_bd frame l k
      by_cases hlt : k < l.length
      · obtain ⟨ad, rfl, c0, c1, c2, c3⟩ := (HE1.out k hlt)
        have hs := spAt_succ frame l k hlt
        have HS := Lib.hid hs
        clear hs
        go_wp2
        all_goals
          have hs := HS.out
          (first | rw [sp_out ‹_›] at hs | rw [sq_from ‹_› ‹_› ‹_›] at hs | rw [sq_early ‹_› ‹_› ‹_›] at hs | rw [sq_to ‹_› ‹_› ‹_› ‹_›] at hs | rw [sq_keep ‹_› ‹_› ‹_›] at hs | rw [sq_done ‹_› ‹_› ‹_›] at hs)
          go_round
          case rel => exact ⟨k + 1, by omega, by go_num, by rw [hs], by rw [hs]⟩
          case measure => simp [intOf]; omega
      · obtain rfl : k = l.length := by omega
        go_wp2
        go_loopw [15] (fun i wr => ∃ (k m : Nat), k ≤ n ∧ i = .int .i64 k ∧ wr = w1.drewN m) (fun i _ => n - (intOf i).toNat)
        case atStart => exact ⟨0, 0, Nat.zero_le _, rfl, rfl⟩
        case round =>
          obtain ⟨k, m, hk, rfl, rfl⟩ := hrel
          by_cases hlt : k < n
          · have f0 := HG.out.cell (i := k * 3) (by omega)
            have f1 := HG.out.cell (i := k * 3 + 1) (by omega)
            have f2 := HG.out.cell (i := k * 3 + 2) (by omega)
            simp only [loadCell, show k * 3 / 3 = k by omega, show k * 3 % 3 = 0 by omega, show (k * 3 + 1) / 3 = k by omega, show (k * 3 + 1) % 3 = 1 by omega, show (k * 3 + 2) / 3 = k by omega, show (k * 3 + 2) % 3 = 2 by omega] at f0 f1 f2
            have i0 : (0 : Int) ≤ (k : Int) := by omega
            have i1 : (k : Int) < (n : Int) := by omega
            have q1 : IntKind.i64.wrap ((k : Int) + 1) = (k : Int) + 1 := by rw [IntKind.wrap_i64]; omega
            have hM := Lib.hid (fun (kind : Int) (W : World) (hW : EvsAt W A l) => many_calls A c l ((k : Int) + 1) kind W hW h1)
            go_wp2
            go_quiet ((go_at_call 10; first | exact quiet_add_left (hM.out _ _ (by exact HE1.out)) | exact quiet_left (hM.out _ _ (by exact HE1.out))))
            go_wp2
            go_roundw
            case rel => exact ⟨k + 1, _, by omega, by go_num, rfl⟩
            case measure => simp [intOf]; omega
          · go_wp2_with (go_at_call 5; refine (AW.out _).mono ?_; rintro r w3 ⟨rfl, hb3⟩)
            go_ret
            exact ⟨rfl, HBW.out.trans ((below_drewN (Below.refl _ _) m).trans (hb3.mono HBW.out.size))⟩
  · rw [spRes_no hsp] at h9
    have H9 := Lib.hid h9
    clear h9
    go_enter Try.func4, Try.ntmps4
    go_wp2_with (first | (go_at_call 8; refine H8.out.mono ?_; rintro r w0 ⟨rfl, hr0, hb0⟩; have HR0 := Lib.hid hr0; have HB0 := Lib.hid hb0; clear hr0 hb0) | (go_at_call 9; refine (H9.out _ (HL.out.below HB0.out)).mono ?_; rintro r w1 ⟨rfl, hb1⟩; have HB1 := Lib.hid hb1; clear hb1))
    have HE1 := Lib.hid ((HL.out.below HB0.out).below HB1.out)
    have HG := Lib.hid (HR0.out.of_block (HB1.out.block _ HR0.out.lt))
    have HBW := Lib.hid (HB0.out.trans (HB1.out.mono HB0.out.size))
    go_loop [12, 13, 14] (fun f t i => ∃ k : Nat, k ≤ l.length ∧ i = .int .i64 k ∧ f = .int .i64 (spAt frame l k).1 ∧ t = .int .i64 (spAt frame l k).2) (fun _ _ i => l.length - (intOf i).toNat)
    case atStart => exact ⟨0, Nat.zero_le _, rfl, rfl, rfl⟩
    case round =>
      obtain ⟨k, hk, rfl, rfl, rfl⟩ := hrel
      have hbd := spAt_bd frame l k
      by_cases hlt : k < l.length
      · obtain ⟨ad, rfl, c0, c1, c2, c3⟩ := (HE1.out k hlt)
        have hs := spAt_succ frame l k hlt
        have HS := Lib.hid hs
        clear hs
        go_wp2
        all_goals
          have hs := HS.out
          (first | rw [sp_out ‹_›] at hs | rw [sq_from ‹_› ‹_› ‹_›] at hs | rw [sq_early ‹_› ‹_› ‹_›] at hs | rw [sq_to ‹_› ‹_› ‹_› ‹_›] at hs | rw [sq_keep ‹_› ‹_› ‹_›] at hs | rw [sq_done ‹_› ‹_› ‹_›] at hs)
          go_round
          case rel => exact ⟨k + 1, by omega, by go_num, by rw [hs], by rw [hs]⟩
          case measure => simp [intOf]; omega
      · obtain rfl : k = l.length := by omega
        go_wp2
        go_loopw [15] (fun i wr => ∃ (k m : Nat), k ≤ n ∧ i = .int .i64 k ∧ wr = w1.drewN m) (fun i _ => n - (intOf i).toNat)
        case atStart => exact ⟨0, 0, Nat.zero_le _, rfl, rfl⟩
        case round =>
          obtain ⟨k, m, hk, rfl, rfl⟩ := hrel
          by_cases hlt : k < n
          · have f0 := HG.out.cell (i := k * 3) (by omega)
            have f1 := HG.out.cell (i := k * 3 + 1) (by omega)
            have f2 := HG.out.cell (i := k * 3 + 2) (by omega)
            simp only [loadCell, show k * 3 / 3 = k by omega, show k * 3 % 3 = 0 by omega, show (k * 3 + 1) / 3 = k by omega, show (k * 3 + 1) % 3 = 1 by omega, show (k * 3 + 2) / 3 = k by omega, show (k * 3 + 2) % 3 = 2 by omega] at f0 f1 f2
            have i0 : (0 : Int) ≤ (k : Int) := by omega
            have i1 : (k : Int) < (n : Int) := by omega
            have q1 : IntKind.i64.wrap ((k : Int) + 1) = (k : Int) + 1 := by rw [IntKind.wrap_i64]; omega
            have hM := Lib.hid (fun (kind : Int) (W : World) (hW : EvsAt W A l) => many_calls A c l ((k : Int) + 1) kind W hW h1)
            go_wp2
            go_quiet ((go_at_call 10; first | exact quiet_add_left (hM.out _ _ (by exact HE1.out)) | exact quiet_left (hM.out _ _ (by exact HE1.out))))
            go_wp2
            go_roundw
            case rel => exact ⟨k + 1, _, by omega, by go_num, rfl⟩
            case measure => simp [intOf]; omega
          · go_wp2_with (go_at_call 5; refine (AW.out _).mono ?_; rintro r w3 ⟨rfl, hb3⟩)
            go_ret
            exact ⟨rfl, HBW.out.trans ((below_drewN (Below.refl _ _) m).trans (hb3.mono HBW.out.size))⟩

theorem auditLoads_walk (A : Option Addr) (c : Nat) (l : List Ev) (workers frame : Int) (w : World) (hl : EvsAt w A l) (hm : l.length ≤ 9223372036854775807) :
    Calls Try.prog 4 #[.slice A l.length c, .int .i64 workers, .int .i64 frame] w fun r w' => r = .returned (.bool true) ∧ Below w.heap.size w w' := by
  by_cases h1 : 100 < l.length
  · exact auditLoads_long A c l workers frame w h1 hm
  by_cases h2 : workers < 1 ∨ 64 < workers
  · exact auditLoads_bad A c l workers frame w hl (by omega) h2
  obtain ⟨n, rfl⟩ := Int.eq_ofNat_of_zero_le (show 0 ≤ workers by omega)
  exact auditLoads_good A c l n frame w hl (by omega) (by omega) (by omega)
end Go.Proofs.Ytjknkmidcmiefaa
