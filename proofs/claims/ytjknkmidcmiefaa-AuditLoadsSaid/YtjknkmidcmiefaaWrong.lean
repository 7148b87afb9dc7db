/- The contracts of audit.Wrong and of the reference's Wrong. -/
import Derived.Test.YtjknkmidcmiefaaRsee
namespace Go.Proofs.Ytjknkmidcmiefaa
open Go.RowKit

/-- the first event that is wrong, and why -/
noncomputable def wrongs (k : Bk) : List Ev → Nat → Int × Int
  | [], i => ((i : Int), 0)
  | e :: l, i => if k.see e = 0 then wrongs (k.next e) l (i + 1) else ((i : Int), k.see e)

def bk0 (workers tiles : Int) : Bk := ⟨workers, tiles, 0, false, fun _ => 0, fun _ => 0⟩

theorem bk0_ok (workers tiles : Int) (h : 1 ≤ tiles) : BkOk (bk0 workers tiles) 0 := ⟨h, Int.le_refl _, Int.le_refl _, fun _ => Int.le_refl _, fun _ => Int.le_refl _⟩

theorem drop_ev (l : List Ev) (j : Nat) (h : j < l.length) : l.drop j = l[j] :: l.drop (j + 1) := List.drop_eq_getElem_cons h

theorem wrong_bad (A : Option Addr) (c n : Nat) (workers tiles : Int) (w : World) (h : workers < 1 ∨ tiles < 1) :
    Calls Try.prog 6 #[.slice A n c, .int .i64 workers, .int .i64 tiles] w fun r w' => r = .returned (.tuple #[.int .i64 (-1), .int .i64 2]) ∧ w = w' := by
  by_cases h1 : workers < 1
  · clear h
    go_enter Try.func6, Try.ntmps6
    go_wp2
    go_ret2
    exact ⟨rfl, rfl⟩
  · have h2 : tiles < 1 := by omega
    clear h
    go_enter Try.func6, Try.ntmps6
    go_wp2
    go_ret2
    exact ⟨rfl, rfl⟩

theorem next_workers (k : Bk) (e : Ev) : (k.next e).workers = k.workers ∧ (k.next e).tiles = k.tiles := by
  unfold Bk.next
  repeat' split
  all_goals exact ⟨rfl, rfl⟩

set_option maxHeartbeats 2000000 in
theorem wrong_calls (A : Option Addr) (c : Nat) (l : List Ev) (workers tiles : Int) (w : World) (hl : EvsAt w A l) (hn1 : l.length ≤ 100) (hev : ∀ e ∈ l, EvOk e) (h1 : 1 ≤ workers) (h2 : 1 ≤ tiles) :
    Calls Try.prog 6 #[.slice A l.length c, .int .i64 workers, .int .i64 tiles] w fun r w' => r = .returned (.tuple #[.int .i64 (wrongs (bk0 workers tiles) l 0).1, .int .i64 (wrongs (bk0 workers tiles) l 0).2]) ∧ Below w.heap.size w w' := by
  have HL := Lib.hid hl
  have HEV := Lib.hid hev
  obtain ⟨R, hR⟩ : ∃ R, R = wrongs (bk0 workers tiles) l 0 := ⟨_, rfl⟩
  rw [← hR]
  have HR := Lib.hid hR
  have b0 : Book (((w.alloc (.map #[] 0)).alloc (.map #[] 0)).alloc (.cells #[.int .i64 workers, .int .i64 tiles, .int .i64 0, .bool false, .map (some w.heap.size), .map (some (w.heap.size + 1))] 44)) (w.heap.size + 2) w.heap.size (w.heap.size + 1) 0 (bk0 workers tiles) := by
    have m1 := MapIs.made (F := F54) w
    have m2 := MapIs.made (F := F3) (w.alloc (.map #[] 0))
    simp only [World.size_alloc] at m2
    refine ⟨?_, (m1.alloc _).alloc _, m2.alloc _, by omega⟩
    have := heap_alloc_new ((w.alloc (.map #[] 0)).alloc (.map #[] 0)) (.cells #[.int .i64 workers, .int .i64 tiles, .int .i64 0, .bool false, .map (some w.heap.size), .map (some (w.heap.size + 1))] 44)
    simp only [World.size_alloc] at this
    exact this
  have B0 := Lib.hid b0
  have hmm := @run_makeMap Try.prog
  clear hl hev hR b0
  go_enter Try.func6, Try.ntmps6
  go_wp2
  go_loopw [26] (fun i wr => ∃ (j : Nat) (k : Bk), j ≤ l.length ∧ i = .int .i64 j ∧ Hid (R = wrongs k (l.drop j) j) ∧ Hid (Book wr (w.heap.size + 2) w.heap.size (w.heap.size + 1) j k) ∧ Hid (BkOk k j) ∧ Below w.heap.size w wr) (fun i _ => l.length - (intOf i).toNat)
  case atStart => exact ⟨0, bk0 workers tiles, Nat.zero_le _, rfl, HR, B0, bk0_ok _ _ h2, (((Below.refl _ _).alloc (Nat.le_refl _) _).alloc (by simp) _).alloc (by simp; omega) _⟩
  case round =>
    obtain ⟨j, k, hj, rfl, HRk, HBk, HOk, HB⟩ := hrel
    clear B0 HR
    by_cases hlt : j < l.length
    · obtain ⟨ad, rfl, c0, c1, c2, c3⟩ := (HL.out.below HB) j hlt
      obtain ⟨E, hE⟩ : ∃ E, E = l[j] := ⟨_, rfl⟩
      have HEo : Hid (EvOk E) := by rw [hE]; exact HEV.out _ (List.getElem_mem hlt)
      have HD : Hid (l.drop j = E :: l.drop (j + 1)) := by rw [hE]; exact drop_ev l j hlt
      rw [← hE] at c0 c1 c2 c3
      clear hE
      have hs := see_calls (w.heap.size + 2) w.heap.size (w.heap.size + 1) j w.heap.size k E (wr.alloc (.cells #[.int .i64 E.who, .int .i64 E.kind, .int .i64 E.a, .int .i64 E.b] 36)) (HBk.out.of_grown ((Below.refl _ _).alloc (Nat.le_refl _) _)) HOk.out HEo.out (by omega) (by omega) (by omega) (by omega) (by have := HB.size; simp; omega)
      unfold evAgg at hs
      have HS := Lib.hid hs
      clear hs
      cases hz : (k.see E == 0) with
      | true =>
        have hz' : k.see E = 0 := beq_iff_eq.1 hz
        have hzn : (k.see E != 0) = false := by rw [bne, hz]; rfl
        have HZ := Lib.hid hz'
        clear hz'
        go_wp2_with (go_at_call 11; refine HS.out.mono ?_; rintro r w' ⟨rfl, hbk, hb'⟩)
        have HBn := Lib.hid (hbk HZ.out)
        go_roundw
        case rel =>
          refine ⟨j + 1, k.next E, by omega, by go_num, ?_, HBn, HOk.out.next E, (HB.alloc HB.size _).trans hb'⟩
          show R = _
          rw [HRk.out, HD.out, wrongs, if_pos HZ.out]
        case measure => simp [intOf]; omega
      | false =>
        have hz' : ¬ k.see E = 0 := beq_eq_false_iff_ne.1 hz
        have hzn : (k.see E != 0) = true := by rw [bne, hz]; rfl
        have HZ := Lib.hid hz'
        have HRv : Hid (R = ((j : Int), k.see E)) := by show R = _; rw [HRk.out, HD.out, wrongs, if_neg hz']
        clear hz'
        go_wp2_with (go_at_call 11; refine HS.out.mono ?_; rintro r w' ⟨rfl, hbk, hb'⟩)
        go_ret2
        exact ⟨by rw [HRv.out]; rfl, (HB.alloc HB.size _).trans hb'⟩
    · obtain rfl : j = l.length := by omega
      have HRv : Hid (R = ((l.length : Int), 0)) := by show R = _; rw [HRk.out, List.drop_length, wrongs]
      go_wp2
      go_ret2
      exact ⟨by rw [HRv.out]; rfl, HB⟩

end Go.Proofs.Ytjknkmidcmiefaa
