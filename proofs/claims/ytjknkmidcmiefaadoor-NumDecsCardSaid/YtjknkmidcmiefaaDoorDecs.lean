import Derived.Test.YtjknkmidcmiefaaDoorHex
namespace Go.Proofs.YtjknkmidcmiefaaDoor.Digs
open Go.RowKit Go.Proofs.YtjknkmidcmiefaaDoorW Go.Proofs.YtjknkmidcmiefaaDoor.PN
open Go Go.Lib

theorem ret_bool {a b : Bool} (h : a = b) : Ending.returned (.bool a) = .returned (.bool b) := by rw [h]
theorem digs5 : digs 10 5 = [53] := digs_small (by omega)
theorem digs7 : digs 10 7 = [55] := digs_small (by omega)
theorem undec007 : undecV [48, 48, 55] = 0 ∧ undecE [48, 48, 55] = 6 := by
  have : undecS [48, 48, 55] = none := by
    unfold undecS
    rw [show parseIntB 64 [48, 48, 55] = .ok 7 from by decide]
    simp only
    rw [if_neg]
    unfold decS
    rw [if_neg (by omega), show (7 : Int).toNat = 7 from rfl, digs7]
    decide
  unfold undecV undecE; rw [this]; exact ⟨rfl, rfl⟩

set_option maxHeartbeats 2000000 in
theorem awake_calls (w : World) (hV : Vars w) :
    Calls Tryd.prog 5 #[] w fun e w' => e = .returned (.bool true) ∧ Below w.heap.size w w' := by
  have hH := hid (fun w => hex_calls 255 4 w)
  have hU : Hid (∀ w1, Below w.heap.size w w1 → Calls Tryd.prog 6 #[.string ⟨#[48, 48, 55]⟩] w1 fun e w' => e = .returned (.tuple #[.int .i64 0, .int .i64 6]) ∧ Below w1.heap.size w1 w') := hid (fun w1 hb => by
    have := undec_calls [48, 48, 55] (by decide) w1 (hV.below hb)
    rw [undec007.1, undec007.2] at this
    exact this)
  have hD : Hid (∀ w, Calls Tryd.prog 7 #[.int .i64 (-5)] w fun e w' => e = .returned (.string ⟨#[45, 53]⟩) ∧ Below w.heap.size w w') := hid (fun w => by
    have := dec_calls (-5) (by unfold i64; omega) w
    rw [show decS (-5) = [45, 53] from by unfold decS; rw [if_pos (by omega), show (-(-5) : Int).toNat = 5 from rfl, digs5]] at this
    exact this)
  have hE : hexE 255 4 = 0 := by decide
  have hL : str (hexL 255 4) = ⟨#[48, 48, 102, 102]⟩ := by decide
  rw [hE, hL] at hH
  clear hE hL hV
  go_enter Tryd.func5, Tryd.ntmps5
  go_wp2_with (first
    | (go_at_call 10; with_reducible refine (hH.out _).mono ?_; rintro r w1 ⟨rfl, hb1⟩)
    | (go_at_call 6; with_reducible refine (hU.out _ hb1).mono ?_; rintro r w2 ⟨rfl, hb2⟩)
    | (go_at_call 7; with_reducible refine (hD.out _).mono ?_; rintro r w3 ⟨rfl, hb3⟩))
  go_ret
  exact ⟨ret_bool (by decide), (hb1.trans (Below.mono hb2 hb1.size)).trans (Below.mono hb3 (Nat.le_trans hb1.size hb2.size))⟩

theorem rdec_calls (n : Int) (h : i64 n) (w : World) : Calls Tryd.prog 9 #[.int .i64 n] w fun e w' => e = .returned (.string (str (decS n))) ∧ Below w.heap.size w w' :=
  temperaref03_Dec.calls 300 n _ w (rdec_k 300 n h (by omega))
theorem rundec_calls (l : List UInt8) : ∃ y b, (b = true → undecS l = some y) ∧ (b = false → undecS l = none) ∧ ∀ w, Calls Tryd.prog 8 #[.string (str l)] w fun e w' => e = .returned (.tuple #[.int .i64 y, .bool b]) ∧ Below w.heap.size w w' := by
  obtain ⟨y, b, h1, h2, h3⟩ := rundec 300 l (by omega)
  exact ⟨y, b, h2, h3, fun w => temperaref03_Undec.calls 300 _ y b w h1⟩

set_option maxHeartbeats 4000000 in
theorem numDecs_calls (n : Int) (hn : i64 n) (l : List UInt8) (w : World) (hV : Vars w) :
    Calls Tryd.prog 3 #[.int .i64 n, .string (str l)] w fun e w' => e = .returned (.bool true) ∧ Below w.heap.size w w' := by
  have hA := hid (fun w1 hb => awake_calls w1 (hV.below (w' := w1) hb))
  by_cases hlen : l.length > 100
  · have hs : (100 : Int) < ((str l).size : Int) := by rw [str_size]; omega
    have hs2 : 100 < (str l).size := by omega
    clear hlen hV hn
    go_enter Tryd.func3, Tryd.ntmps3
    go_wp2_with (go_at_call 5; with_reducible refine (hA.out _ (Below.refl _ _)).mono ?_; rintro r w1 ⟨rfl, hb1⟩)
    go_ret
    exact ⟨rfl, hb1⟩
  · have hs2 : ¬ 100 < (str l).size := by rw [str_size]; omega
    have hD := hid (dec_calls n hn)
    have hR := hid (rdec_calls n hn)
    have hU : Hid (∀ w1, Below w.heap.size w w1 → Calls Tryd.prog 6 #[.string (str (decS n))] w1 fun e w' => e = .returned (.tuple #[.int .i64 n, .int .i64 0]) ∧ Below w1.heap.size w1 w') := hid (fun w1 hb => by
      have := undec_calls (decS n) (by have := decS_len n hn; omega) w1 (hV.below hb)
      unfold undecV undecE at this
      rw [undecS_dec n hn] at this
      exact this)
    have hX : Hid (∀ w1, Below w.heap.size w w1 → Calls Tryd.prog 6 #[.string (str l)] w1 fun e w' => e = .returned (.tuple #[.int .i64 (undecV l), .int .i64 (undecE l)]) ∧ Below w1.heap.size w1 w') := hid (fun w1 hb => undec_calls l (by omega) w1 (hV.below hb))
    obtain ⟨y, b, h1, h2, hY⟩ := rundec_calls l
    replace hY := hid hY
    have hb : (b = true ∧ undecV l = y ∧ undecE l = 0) ∨ (b = false ∧ undecV l = 0 ∧ undecE l = 6) := by
      unfold undecV undecE
      cases b
      · right; rw [h2 rfl]; exact ⟨rfl, rfl, rfl⟩
      · left; rw [h1 rfl]; exact ⟨rfl, rfl, rfl⟩
    clear h1 h2 hV hlen hn
    have hSelf : ((str (decS n)).toList == (str (decS n)).toList) = true := beq_self_eq_true _
    obtain ⟨D, hD0⟩ : ∃ D, D = str (decS n) := ⟨_, rfl⟩
    obtain ⟨L, hL0⟩ : ∃ L, L = str l := ⟨_, rfl⟩
    rw [← hD0] at hD hR hU hSelf
    rw [← hL0] at hX hY hs2 ⊢
    clear hD0 hL0
    rcases hb with ⟨rfl, e1, e2⟩ | ⟨rfl, e1, e2⟩
    all_goals
      rw [e1, e2] at hX
      clear e1 e2
      have HB := Below.refl w.heap.size w
      go_enter Tryd.func3, Tryd.ntmps3
      go_wp2_with (first
        | (go_at_call 7; with_reducible refine (hD.out _).mono ?_; rintro r w1 ⟨rfl, hb⟩; replace HB := HB.trans (Below.mono hb HB.size); clear hb)
        | (go_at_call 6; with_reducible refine (hU.out _ HB).mono ?_; rintro r w1 ⟨rfl, hb⟩; replace HB := HB.trans (Below.mono hb HB.size); clear hb)
        | (go_at_call 6; with_reducible refine (hX.out _ HB).mono ?_; rintro r w1 ⟨rfl, hb⟩; replace HB := HB.trans (Below.mono hb HB.size); clear hb)
        | (go_at_call 8; with_reducible refine (hY.out _).mono ?_; rintro r w1 ⟨rfl, hb⟩; replace HB := HB.trans (Below.mono hb HB.size); clear hb)
        | (go_at_call 9; with_reducible refine (hR.out _).mono ?_; rintro r w1 ⟨rfl, hb⟩; replace HB := HB.trans (Below.mono hb HB.size); clear hb)
        | (go_at_call 5; with_reducible refine (hA.out _ HB).mono ?_; rintro r w1 ⟨rfl, hb⟩; replace HB := HB.trans (Below.mono hb HB.size); clear hb))
      go_ret
      exact ⟨rfl, HB⟩
end Go.Proofs.YtjknkmidcmiefaaDoor.Digs
