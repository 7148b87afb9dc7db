import Derived.Test.YtjknkmidcmiefaaDoorDecs
namespace Go.Proofs.YtjknkmidcmiefaaDoor.Digs
open Go.RowKit Go.Proofs.YtjknkmidcmiefaaDoorW Go.Proofs.YtjknkmidcmiefaaDoor.PN
open Go Go.Lib

theorem runhex_calls (l : List UInt8) (w : World) : Calls Tryd.prog 12 #[.string (str l)] w fun e w' => e = .returned (.tuple #[.int .i64 (unhexV l), .bool (unhexS l).isSome]) ∧ PrintWords.Drawn0 w w' := by
  refine temperaref03_Unhex.calls 300 (str l) _ _ w ?_
  rw [runhex_f 300 l (by omega)]
  unfold unhexV
  cases unhexS l <;> rfl
theorem rhex_calls (u q : Nat) (hu : u < 4611686018427387904) (hq : q ≤ 60) (w : World) : Calls Tryd.prog 14 #[.int .i64 (u : Int), .int .i64 (q : Int)] w fun e w' => e = .returned (.string (str (hexS u q))) ∧ Below w.heap.size w w' :=
  temperaref03_Hex.calls 300 _ _ _ w (rhex_f q 300 u hu hq (by omega))
theorem power_calls (e : Nat) (he : e ≤ 60) (w : World) : Calls Tryd.prog 13 #[.int .i64 (e : Int)] w fun r w' => r = .returned (.int .i64 ((2 ^ e : Nat) : Int)) ∧ PrintWords.Drawn0 w w' :=
  temperaref01_Power.calls 300 _ _ w (power_f 300 e he (by omega))

set_option maxHeartbeats 4000000 in
theorem numHexes_calls (n many : Int) (l : List UInt8) (w : World) (hV : Vars w) :
    Calls Tryd.prog 4 #[.int .i64 n, .int .i64 many, .string (str l)] w fun e w' => e = .returned (.bool true) ∧ Below w.heap.size w w' := by
  have hA := hid (fun w1 hb => awake_calls w1 (hV.below (w' := w1) hb))
  by_cases hlen : l.length > 100
  · have hs2 : 100 < (str l).size := by rw [str_size]; omega
    clear hlen hV
    go_enter Tryd.func4, Tryd.ntmps4
    go_wp2_with (go_at_call 5; refine (hA.out _ (Below.refl _ _)).mono ?_; rintro r w1 ⟨rfl, hb1⟩)
    go_ret
    exact ⟨rfl, hb1⟩
  have hs2 : ¬ 100 < (str l).size := by rw [str_size]; omega
  have hH := hid (hex_calls n many)
  have hX := hid (unhex_calls l (by omega))
  have hY := hid (runhex_calls l)
  have hb : (Hid ((unhexS l).isSome = true) ∧ unhexE l = 0) ∨ (Hid ((unhexS l).isSome = false) ∧ unhexV l = 0 ∧ unhexE l = 6) := by
    unfold unhexV unhexE
    cases h : unhexS l
    · right; exact ⟨hid rfl, rfl, rfl⟩
    · left; exact ⟨hid rfl, rfl⟩
  have emp : Hid ((⟨#[]⟩ : ByteArray) = str []) := hid rfl
  have hse : ((⟨#[]⟩ : ByteArray).toList == (⟨#[]⟩ : ByteArray).toList) = true := beq_self_eq_true _
  have go1 : ∀ (S T : ByteArray) (E v y e : Int) (b : Bool), Hid (∀ w, Calls Tryd.prog 10 #[.int .i64 n, .int .i64 many] w fun r w' => r = .returned (.tuple #[.string S, .int .i64 E]) ∧ Below w.heap.size w w') →
      Hid (∀ w, Calls Tryd.prog 11 #[.string T] w fun r w' => r = .returned (.tuple #[.int .i64 v, .int .i64 e]) ∧ Below w.heap.size w w') →
      Hid (∀ w, Calls Tryd.prog 12 #[.string T] w fun r w' => r = .returned (.tuple #[.int .i64 y, .bool b]) ∧ Below w.heap.size w w') →
      (b = true ∧ v = y ∧ e = 0 ∨ b = false ∧ v = 0 ∧ e = 6) → ¬ 100 < T.size →
      ((many < 1 ∧ S = ⟨#[]⟩ ∧ E = 2) ∨ (¬ many < 1 ∧ 15 < many ∧ S = ⟨#[]⟩ ∧ E = 2) ∨
       (∃ q : Nat, many = q ∧ (¬ many < 1 ∧ ¬ 15 < many) ∧ n < 0 ∧ S = ⟨#[]⟩ ∧ E = 3) ∨
       (∃ q : Nat, many = q ∧ (¬ many < 1 ∧ ¬ 15 < many) ∧ ¬ n < 0 ∧ ((2 ^ (4 * q) : Nat) : Int) ≤ n ∧ S = ⟨#[]⟩ ∧ E = 3) ∨
       (∃ q : Nat, many = q ∧ (¬ many < 1 ∧ ¬ 15 < many) ∧ ¬ n < 0 ∧ ¬ ((2 ^ (4 * q) : Nat) : Int) ≤ n ∧ E = 0 ∧
          Hid (∀ w, Calls Tryd.prog 11 #[.string S] w fun r w' => r = .returned (.tuple #[.int .i64 n, .int .i64 0]) ∧ Below w.heap.size w w') ∧ Hid (∀ w, Calls Tryd.prog 14 #[.int .i64 n, .int .i64 many] w fun r w' => r = .returned (.string S) ∧ Below w.heap.size w w'))) →
      Calls Tryd.prog 4 #[.int .i64 n, .int .i64 many, .string T] w fun e w' => e = .returned (.bool true) ∧ Below w.heap.size w w' := by
    clear hH hX hY hs2 hV hlen
    intro S T E v y e b hH hX hY hb hs2 hc
    have HB := Below.refl w.heap.size w
    have hself : (S.toList == S.toList) = true := beq_self_eq_true _
    rcases hc with ⟨c1, rfl, rfl⟩ | ⟨c1, c2, rfl, rfl⟩ | ⟨q, hq, ⟨c1, c2⟩, c3, rfl, rfl⟩ | ⟨q, rfl, ⟨c1, c2⟩, c3, c4, rfl, rfl⟩ | ⟨q, rfl, ⟨c1, c2⟩, c3, c4, rfl, hU, hR⟩
    · rcases hb with ⟨rfl, rfl, rfl⟩ | ⟨rfl, rfl, rfl⟩
      all_goals
        go_enter Tryd.func4, Tryd.ntmps4
        go_wp2_with (first
          | (go_at_call 10; with_reducible refine (hH.out _).mono ?_; rintro r w1 ⟨rfl, hb⟩; replace HB := HB.trans (Below.mono hb HB.size); clear hb)
          | (go_at_call 11; with_reducible refine (hX.out _).mono ?_; rintro r w1 ⟨rfl, hb⟩; replace HB := HB.trans (Below.mono hb HB.size); clear hb)
          | (go_at_call 12; with_reducible refine (hY.out _).mono ?_; rintro r w1 ⟨rfl, hb⟩; replace HB := HB.trans (Below.mono hb HB.size); clear hb)
          | (go_at_call 5; with_reducible refine (hA.out _ HB).mono ?_; rintro r w1 ⟨rfl, hb⟩; replace HB := HB.trans (Below.mono hb HB.size); clear hb))
        go_ret
        exact ⟨rfl, HB⟩
    · rcases hb with ⟨rfl, rfl, rfl⟩ | ⟨rfl, rfl, rfl⟩
      all_goals
        go_enter Tryd.func4, Tryd.ntmps4
        go_wp2_with (first
          | (go_at_call 10; with_reducible refine (hH.out _).mono ?_; rintro r w1 ⟨rfl, hb⟩; replace HB := HB.trans (Below.mono hb HB.size); clear hb)
          | (go_at_call 11; with_reducible refine (hX.out _).mono ?_; rintro r w1 ⟨rfl, hb⟩; replace HB := HB.trans (Below.mono hb HB.size); clear hb)
          | (go_at_call 12; with_reducible refine (hY.out _).mono ?_; rintro r w1 ⟨rfl, hb⟩; replace HB := HB.trans (Below.mono hb HB.size); clear hb)
          | (go_at_call 5; with_reducible refine (hA.out _ HB).mono ?_; rintro r w1 ⟨rfl, hb⟩; replace HB := HB.trans (Below.mono hb HB.size); clear hb))
        go_ret
        exact ⟨rfl, HB⟩
    · clear hq
      rcases hb with ⟨rfl, rfl, rfl⟩ | ⟨rfl, rfl, rfl⟩
      all_goals
        go_enter Tryd.func4, Tryd.ntmps4
        go_wp2_with (first
          | (go_at_call 10; with_reducible refine (hH.out _).mono ?_; rintro r w1 ⟨rfl, hb⟩; replace HB := HB.trans (Below.mono hb HB.size); clear hb)
          | (go_at_call 11; with_reducible refine (hX.out _).mono ?_; rintro r w1 ⟨rfl, hb⟩; replace HB := HB.trans (Below.mono hb HB.size); clear hb)
          | (go_at_call 12; with_reducible refine (hY.out _).mono ?_; rintro r w1 ⟨rfl, hb⟩; replace HB := HB.trans (Below.mono hb HB.size); clear hb)
          | (go_at_call 5; with_reducible refine (hA.out _ HB).mono ?_; rintro r w1 ⟨rfl, hb⟩; replace HB := HB.trans (Below.mono hb HB.size); clear hb))
        go_ret
        exact ⟨rfl, HB⟩
    · have e1 : wrap64 (4 * (q : Int)) = ((4 * q : Nat) : Int) := by rw [w64 _ (by omega) (by omega)]; omega
      have hP0 : ∀ w, Calls Tryd.prog 13 #[.int .i64 (4 * (q : Int))] w fun r w' => r = .returned (.int .i64 ((2 ^ (4 * q) : Nat) : Int)) ∧ Below w.heap.size w w' := fun w => by
        have := power_calls (4 * q) (by omega) w
        rw [show ((4 * q : Nat) : Int) = 4 * (q : Int) from by omega] at this
        exact this.mono fun r w' h => ⟨h.1, h.2.below⟩
      obtain ⟨P, hP⟩ : ∃ P : Int, P = ((2 ^ (4 * q) : Nat) : Int) := ⟨_, rfl⟩
      rw [← hP] at hP0 c4
      replace hP := hid hP0
      clear hP0 e1
      rcases hb with ⟨rfl, rfl, rfl⟩ | ⟨rfl, rfl, rfl⟩
      all_goals
        go_enter Tryd.func4, Tryd.ntmps4
        go_wp2_with (first
          | (go_at_call 10; with_reducible refine (hH.out _).mono ?_; rintro r w1 ⟨rfl, hb⟩; replace HB := HB.trans (Below.mono hb HB.size); clear hb)
          | (go_at_call 11; with_reducible refine (hX.out _).mono ?_; rintro r w1 ⟨rfl, hb⟩; replace HB := HB.trans (Below.mono hb HB.size); clear hb)
          | (go_at_call 12; with_reducible refine (hY.out _).mono ?_; rintro r w1 ⟨rfl, hb⟩; replace HB := HB.trans (Below.mono hb HB.size); clear hb)
          | (go_at_call 13; with_reducible refine (hP.out _).mono ?_; rintro r w1 ⟨rfl, hb⟩; replace HB := HB.trans (Below.mono hb HB.size); clear hb)
          | (go_at_call 5; with_reducible refine (hA.out _ HB).mono ?_; rintro r w1 ⟨rfl, hb⟩; replace HB := HB.trans (Below.mono hb HB.size); clear hb))
        go_ret
        exact ⟨rfl, HB⟩
    · have hP0 : ∀ w, Calls Tryd.prog 13 #[.int .i64 (4 * (q : Int))] w fun r w' => r = .returned (.int .i64 ((2 ^ (4 * q) : Nat) : Int)) ∧ Below w.heap.size w w' := fun w => by
        have := power_calls (4 * q) (by omega) w
        rw [show ((4 * q : Nat) : Int) = 4 * (q : Int) from by omega] at this
        exact this.mono fun r w' h => ⟨h.1, h.2.below⟩
      obtain ⟨P, hP⟩ : ∃ P : Int, P = ((2 ^ (4 * q) : Nat) : Int) := ⟨_, rfl⟩
      rw [← hP] at hP0 c4
      replace hP := hid hP0
      clear hP0
      rcases hb with ⟨rfl, rfl, rfl⟩ | ⟨rfl, rfl, rfl⟩
      all_goals
        go_enter Tryd.func4, Tryd.ntmps4
        go_wp2_with (first
          | (go_at_call 10; with_reducible refine (hH.out _).mono ?_; rintro r w1 ⟨rfl, hb⟩; replace HB := HB.trans (Below.mono hb HB.size); clear hb)
          | (go_at_call 11; with_reducible refine (hX.out _).mono ?_; rintro r w1 ⟨rfl, hb⟩; replace HB := HB.trans (Below.mono hb HB.size); clear hb)
          | (go_at_call 11; with_reducible refine (hU.out _).mono ?_; rintro r w1 ⟨rfl, hb⟩; replace HB := HB.trans (Below.mono hb HB.size); clear hb)
          | (go_at_call 12; with_reducible refine (hY.out _).mono ?_; rintro r w1 ⟨rfl, hb⟩; replace HB := HB.trans (Below.mono hb HB.size); clear hb)
          | (go_at_call 13; with_reducible refine (hP.out _).mono ?_; rintro r w1 ⟨rfl, hb⟩; replace HB := HB.trans (Below.mono hb HB.size); clear hb)
          | (go_at_call 14; with_reducible refine (hR.out _).mono ?_; rintro r w1 ⟨rfl, hb⟩; replace HB := HB.trans (Below.mono hb HB.size); clear hb)
          | (go_at_call 5; with_reducible refine (hA.out _ HB).mono ?_; rintro r w1 ⟨rfl, hb⟩; replace HB := HB.trans (Below.mono hb HB.size); clear hb))
        go_ret
        exact ⟨rfl, HB⟩
  obtain ⟨S, hS⟩ : ∃ S, S = str (hexL n many) := ⟨_, rfl⟩
  obtain ⟨T, hT⟩ : ∃ T, T = str l := ⟨_, rfl⟩
  have hSE : ∀ x, hexL n many = [] → x = hexE n many → S = ⟨#[]⟩ ∧ hexE n many = x := fun x h1 h2 => ⟨by rw [hS, h1]; rfl, h2.symm⟩
  rw [← hS] at hH
  rw [← hT] at hX hY hs2 ⊢
  refine go1 S T (hexE n many) (unhexV l) (unhexV l) (unhexE l) (unhexS l).isSome hH (hid fun w => (hX.out w).mono fun r w' h => ⟨h.1, by rw [h.2]; exact Below.refl _ _⟩) (hid fun w => (hY.out w).mono fun r w' h => ⟨h.1, h.2.below⟩) ?_ hs2 ?_
  · rcases hb with ⟨a, b⟩ | ⟨a, b, c⟩
    · exact .inl ⟨a.out, rfl, b⟩
    · exact .inr ⟨a.out, b, c⟩
  · by_cases c1 : many < 1
    · exact .inl ⟨c1, hSE 2 (by unfold hexL; rw [if_pos (.inl c1)]) (by unfold hexE; rw [if_pos (.inl c1)])⟩
    · by_cases c2 : 15 < many
      · exact .inr (.inl ⟨c1, c2, hSE 2 (by unfold hexL; rw [if_pos (.inr c2)]) (by unfold hexE; rw [if_pos (.inr c2)])⟩)
      · have hm : ¬ (many < 1 ∨ many > 15) := by omega
        obtain ⟨q, hq⟩ : ∃ q : Nat, many = (q : Int) := ⟨many.toNat, by omega⟩
        have hq4 : (4 * many).toNat = 4 * q := by omega
        by_cases c3 : n < 0
        · exact .inr (.inr (.inl ⟨q, hq, ⟨c1, c2⟩, c3, hSE 3 (by unfold hexL; rw [if_neg hm, if_neg (by unfold hexOk; omega)]) (by unfold hexE; rw [if_neg hm, if_neg (by unfold hexOk; omega)])⟩))
        · by_cases c4 : ((2 ^ (4 * q) : Nat) : Int) ≤ n
          · exact .inr (.inr (.inr (.inl ⟨q, hq, ⟨c1, c2⟩, c3, c4, hSE 3 (by unfold hexL; rw [if_neg hm, if_neg (by unfold hexOk; rw [hq4]; omega)]) (by unfold hexE; rw [if_neg hm, if_neg (by unfold hexOk; rw [hq4]; omega)])⟩)))
          · obtain ⟨u, hu⟩ : ∃ u : Nat, n = (u : Int) := ⟨n.toNat, by omega⟩
            have hu2 : u < 2 ^ (4 * q) := by omega
            have hpb := pow_bits q (by omega)
            have hL : hexL n many = hexS u q := by unfold hexL; rw [if_neg hm, if_pos (by unfold hexOk; rw [hq4]; omega), hu, hq]; simp
            refine .inr (.inr (.inr (.inr ⟨q, hq, ⟨c1, c2⟩, c3, c4, by unfold hexE; rw [if_neg hm, if_pos (by unfold hexOk; rw [hq4]; omega)], hid fun w => ?_, hid fun w => ?_⟩)))
            · have := unhex_calls (hexS u q) (by rw [hexS_len]; omega) w
              unfold unhexV unhexE at this
              rw [unhexS_hexS u q (by omega) (by omega) (by rw [show (16 : Nat) = 2 ^ 4 from rfl, ← Nat.pow_mul]; exact hu2)] at this
              rw [hS, hL, hu]
              exact this.mono fun r w' h => ⟨h.1, by rw [h.2]; exact Below.refl _ _⟩
            · rw [hS, hL, hu, hq]
              exact rhex_calls u q (by omega) (by omega) w
end Go.Proofs.YtjknkmidcmiefaaDoor.Digs
