/- The contract of the reference's See. -/
import Derived.Test.YtjknkmidcmiefaaSpec
namespace Go.Proofs.Ytjknkmidcmiefaa
open Go.RowKit

set_option maxHeartbeats 4000000 in
theorem rsee_calls (A : Option Addr) (c n m : Nat) (l : List Ev) (e : Ev) (k : Bk) (w : World) (hl : EvsAt w A l) (hn : l.length = n) (hn1 : n ≤ 100) (hK : Knows k l) (hk : BkOk k m) (hm : m ≤ 1000) (he : EvOk e) :
    Calls Try.prog 12 #[.slice A n c, evAgg e, .int .i64 k.workers, .int .i64 k.tiles] w fun r w' => r = .returned (.int .i64 (k.see e)) ∧ Below w.heap.size w w' := by
  have hA : EvsAt (w.alloc (.cells #[.int .i64 e.who, .int .i64 e.kind, .int .i64 e.a, .int .i64 e.b] 36)) A l := hl.below ((Below.refl _ _).alloc (Nat.le_refl _) _)
  have h16 := over_calls A c n l e.who _ hA hn hn1
  have h17 := last_calls A c n l _ hA hn hn1
  have h18 := open_calls A c n l _ hA hn hn1
  have h19 := has_calls A c n l e _ hA hn hn1
  rw [hK.over] at h16
  rw [hK.last] at h17
  rw [hK.op] at h18
  have HD := Lib.hid (hK.drawn e)
  unfold evAgg at h19
  have H16 := Lib.hid h16
  have H17 := Lib.hid h17
  have H18 := Lib.hid h18
  have H19 := Lib.hid h19
  have q1 := hk.lo
  have q2 := hk.hi
  have q3 := hk.tiles
  have q4 := he.who.1
  have q5 := he.who.2
  have q6 : ¬ k.tiles = 0 := by omega
  have q7 := he.b.1
  have q8 := he.b.2
  clear h16 h17 h18 h19 hl hA hK hk he hn
  obtain ⟨s, hs⟩ : ∃ s, s = k.see e := ⟨_, rfl⟩
  rw [← hs]
  have HS := Lib.hid hs
  clear hs
  unfold evAgg
  cases E1 : (e.a == k.frames)
  all_goals cases E2 : (e.a == k.frames - 1)
  all_goals
    have N1 : (e.a != k.frames) = !(e.a == k.frames) := rfl
    have N2 : (e.a != k.frames - 1) = !(e.a == k.frames - 1) := rfl
    rw [E1] at N1
    rw [E2] at N2
    simp only [Bool.not_true, Bool.not_false] at N1 N2
    go_enter Try.func12, Try.ntmps12
    go_wp2_with (first | (go_at_call 16; refine H16.out.mono ?_; rintro r w' ⟨rfl, rfl⟩) | (go_at_call 17; refine H17.out.mono ?_; rintro r w' ⟨rfl, rfl⟩) | (go_at_call 18; refine H18.out.mono ?_; rintro r w' ⟨rfl, rfl⟩) | (go_at_call 19; refine H19.out.mono ?_; rintro r w' ⟨rfl, hB'⟩))
  all_goals
    go_ret
    have hd := HD.out
    refine ⟨ret_int ?_, by first | exact (Below.refl _ _).alloc (Nat.le_refl _) _ | exact ((Below.refl _ _).alloc (Nat.le_refl _) _).trans (hB'.mono (by simp))⟩
    rw [HS.out]
    unfold Bk.see Bk.cur
    clear H16 H17 H18 H19 HS HD
    grind

end Go.Proofs.Ytjknkmidcmiefaa
