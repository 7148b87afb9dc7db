/- The contract of the reference's Wrong. -/
import Derived.Test.YtjknkmidcmiefaaWrong
import Derived.StillTailTactics
namespace Go.Proofs.Ytjknkmidcmiefaa
open Go.RowKit

theorem EvsAt.take {w : World} {A : Option Addr} {l : List Ev} (h : EvsAt w A l) (j : Nat) : EvsAt w A (l.take j) := fun i hi => by
  have hi' : i < l.length := by rw [List.length_take] at hi; omega
  rw [List.getElem_take]
  exact h i hi'

set_option maxHeartbeats 2000000 in
theorem rwrong_calls (A : Option Addr) (c : Nat) (l : List Ev) (workers tiles : Int) (w : World) (hl : EvsAt w A l) (hn1 : l.length ≤ 100) (hc : l.length ≤ c) (hev : ∀ e ∈ l, EvOk e) (h2 : 1 ≤ tiles) :
    Calls Try.prog 7 #[.slice A l.length c, .int .i64 workers, .int .i64 tiles] w fun r w' => r = .returned (.tuple #[.int .i64 (wrongs (bk0 workers tiles) l 0).1, .int .i64 (wrongs (bk0 workers tiles) l 0).2]) ∧ Below w.heap.size w w' := by
  have HL := Lib.hid hl
  have HEV := Lib.hid hev
  obtain ⟨R, hR⟩ : ∃ R, R = wrongs (bk0 workers tiles) l 0 := ⟨_, rfl⟩
  rw [← hR]
  have HR := Lib.hid hR
  clear hl hev hR
  go_enter Try.func7, Try.ntmps7
  go_wp2
  go_loopw [8] (fun i wr => ∃ (j : Nat) (k : Bk), j ≤ l.length ∧ i = .int .i64 j ∧ Hid (R = wrongs k (l.drop j) j) ∧ Hid (Knows k (l.take j)) ∧ Hid (k.workers = workers ∧ k.tiles = tiles) ∧ Hid (BkOk k j) ∧ Below w.heap.size w wr) (fun i _ => l.length - (intOf i).toNat)
  case atStart =>
    refine ⟨0, bk0 workers tiles, Nat.zero_le _, rfl, HR, ?_, ⟨rfl, rfl⟩, bk0_ok _ _ h2, Below.refl _ _⟩
    exact ⟨rfl, rfl, fun x => rfl, fun x _ => rfl⟩
  case round =>
    obtain ⟨j, k, hj, rfl, HRk, HK, HP, HOk, HB⟩ := hrel
    clear HR
    by_cases hlt : j < l.length
    · obtain ⟨ad, rfl, c0, c1, c2, c3⟩ := (HL.out.below HB) j hlt
      have HT : Hid (EvsAt wr (some ad) (l.take j)) := (HL.out.below HB).take j
      have HLT : Hid ((l.take j).length = j) := by show _ = _; rw [List.length_take]; omega
      have HTs : Hid (l.take (j + 1) = l.take j ++ [l[j]]) := take_succ_ev l j hlt
      obtain ⟨E, hE⟩ : ∃ E, E = l[j] := ⟨_, rfl⟩
      have HEo : Hid (EvOk E) := by rw [hE]; exact HEV.out _ (List.getElem_mem hlt)
      have HD : Hid (l.drop j = E :: l.drop (j + 1)) := by rw [hE]; exact drop_ev l j hlt
      rw [← hE] at c0 c1 c2 c3 HTs
      clear hE
      have i0 : (0 : Int) ≤ (j : Int) := by omega
      have i1 : (j : Int) < (l.length : Int) := by omega
      have i2 : (j : Int) ≤ (c : Int) := by omega
      have hs := fun W hW => rsee_calls (some ad) c j j (l.take j) E k W hW HLT.out (by omega) HK.out HOk.out (by omega) HEo.out
      unfold evAgg at hs
      rw [HP.out.1, HP.out.2] at hs
      have HS := Lib.hid hs
      clear hs
      have HB2 := Lib.hid (Below.drew (Below.refl wr.heap.size wr))
      cases hz : (k.see E == 0) with
      | true =>
        have hz' : k.see E = 0 := beq_iff_eq.1 hz
        have hzn : (k.see E != 0) = false := by rw [bne, hz]; rfl
        have HZ := Lib.hid hz'
        clear hz'
        go_wp2
        go_still_tail 9, (by kernel_rfl)
        change wpList _ _ _ _ _ wr.drew
        have HT2 : Hid (EvsAt wr.drew (some ad) (l.take j)) := HT
        obtain ⟨V, hV⟩ : ∃ V, V = wr.drew := ⟨_, rfl⟩
        rw [← hV] at HT2 HB2 ⊢
        clear hV
        go_wp2_with (go_at_call 12; refine (HS.out _ HT2.out).mono ?_; rintro r w' ⟨rfl, hb'⟩)
        go_roundw
        case rel =>
          refine ⟨j + 1, k.next E, by omega, by go_num, ?_, ?_, ?_, HOk.out.next E, HB.trans ((HB2.out.mono HB.size).trans (hb'.mono (Nat.le_trans HB.size HB2.out.size)))⟩
          · show R = _
            rw [HRk.out, HD.out, wrongs, if_pos HZ.out]
          · show Knows _ _
            rw [HTs.out]
            exact HK.out.next E HZ.out
          · exact ⟨(next_workers k E).1.trans HP.out.1, (next_workers k E).2.trans HP.out.2⟩
        case measure => simp [intOf]; omega
      | false =>
        have hz' : ¬ k.see E = 0 := beq_eq_false_iff_ne.1 hz
        have hzn : (k.see E != 0) = true := by rw [bne, hz]; rfl
        have HRv : Hid (R = ((j : Int), k.see E)) := by show R = _; rw [HRk.out, HD.out, wrongs, if_neg hz']
        clear hz'
        go_wp2
        go_still_tail 9, (by kernel_rfl)
        change wpList _ _ _ _ _ wr.drew
        have HT2 : Hid (EvsAt wr.drew (some ad) (l.take j)) := HT
        obtain ⟨V, hV⟩ : ∃ V, V = wr.drew := ⟨_, rfl⟩
        rw [← hV] at HT2 HB2 ⊢
        clear hV
        go_wp2_with (go_at_call 12; refine (HS.out _ HT2.out).mono ?_; rintro r w' ⟨rfl, hb'⟩)
        go_ret2
        exact ⟨by rw [HRv.out]; rfl, HB.trans ((HB2.out.mono HB.size).trans (hb'.mono (Nat.le_trans HB.size HB2.out.size)))⟩
    · obtain rfl : j = l.length := by omega
      have HRv : Hid (R = ((l.length : Int), 0)) := by show R = _; rw [HRk.out, List.drop_length, wrongs]
      go_wp2
      go_ret2
      exact ⟨by rw [HRv.out]; rfl, HB⟩

end Go.Proofs.Ytjknkmidcmiefaa
