/- The walk of the law AuditWrong. -/
import Derived.Test.YtjknkmidcmiefaaAwake
namespace Go.Proofs.Ytjknkmidcmiefaa
open Go.RowKit

set_option maxHeartbeats 2000000 in
theorem auditWrong_walk (A : Option Addr) (c : Nat) (l : List Ev) (workers tiles : Int) (w : World) (hl : EvsAt w A l) (hc : l.length ≤ c) (hm : l.length ≤ 9223372036854775807) (hev : ∀ e ∈ l, EvOk e) :
    Calls Try.prog 3 #[.slice A l.length c, .int .i64 workers, .int .i64 tiles] w fun r w' => r = .returned (.bool true) ∧ Below w.heap.size w w' := by
  by_cases h1 : 100 < l.length
  · have haw := Lib.hid (awake_calls w)
    clear hl hev
    go_enter Try.func3, Try.ntmps3
    go_wp2_with (go_at_call 5; refine haw.out.mono ?_; rintro r w1 ⟨rfl, hb1⟩)
    go_ret
    exact ⟨rfl, hb1⟩
  · by_cases h2 : workers < 1 ∨ tiles < 1
    · have hw := Lib.hid (wrong_bad A c l.length workers tiles w h2)
      have haw := Lib.hid (awake_calls w)
      clear hl hev
      by_cases h3 : workers < 1
      · clear h2
        go_enter Try.func3, Try.ntmps3
        go_wp2_with (first | (go_at_call 6; refine hw.out.mono ?_; rintro r w1 ⟨rfl, rfl⟩) | (go_at_call 5; refine haw.out.mono ?_; rintro r w1 ⟨rfl, hb1⟩))
        go_ret
        exact ⟨rfl, hb1⟩
      · have h4 : tiles < 1 := by omega
        clear h2
        go_enter Try.func3, Try.ntmps3
        go_wp2_with (first | (go_at_call 6; refine hw.out.mono ?_; rintro r w1 ⟨rfl, rfl⟩) | (go_at_call 5; refine haw.out.mono ?_; rintro r w1 ⟨rfl, hb1⟩))
        go_ret
        exact ⟨rfl, hb1⟩
    · have h3 : 1 ≤ workers := by omega
      have h4 : 1 ≤ tiles := by omega
      have hw := wrong_calls A c l workers tiles w hl (by omega) hev h3 h4
      have hr := fun W hW => rwrong_calls A c l workers tiles W hW (by omega) hc hev h4
      obtain ⟨x, hx⟩ : ∃ x, x = (wrongs (bk0 workers tiles) l 0).1 := ⟨_, rfl⟩
      obtain ⟨y, hy⟩ : ∃ y, y = (wrongs (bk0 workers tiles) l 0).2 := ⟨_, rfl⟩
      simp only [← hx, ← hy] at hw hr
      have HW := Lib.hid hw
      have HR := Lib.hid hr
      have HE := Lib.hid hl
      have AW := Lib.hid awake_calls
      clear hw hr hl hx hy hev h2
      have e1 : (x == x) = true := beq_self_eq_true x
      have e2 : (y == y) = true := beq_self_eq_true y
      go_enter Try.func3, Try.ntmps3
      go_wp2_with (first
        | (go_at_call 6; refine HW.out.mono ?_; rintro r w1 ⟨rfl, hb1⟩; have HB1 := Lib.hid hb1; clear hb1)
        | (go_at_call 7; refine (HR.out _ (HE.out.below HB1.out)).mono ?_; rintro r w2 ⟨rfl, hb2⟩; have HB2 := Lib.hid hb2; clear hb2)
        | (go_at_call 5; refine (AW.out _).mono ?_; rintro r w3 ⟨rfl, hb3⟩))
      go_ret
      exact ⟨rfl, HB1.out.trans ((HB2.out.mono HB1.out.size).trans (hb3.mono (Nat.le_trans HB1.out.size HB2.out.size)))⟩

end Go.Proofs.Ytjknkmidcmiefaa
