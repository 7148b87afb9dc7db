import Derived.Test.YtjknkmidcmiefaaDoorUnhex
namespace Go.Proofs.YtjknkmidcmiefaaDoor.Digs
open Go.RowKit Go.Proofs.YtjknkmidcmiefaaDoorW Go.Proofs.YtjknkmidcmiefaaDoor.PN
open Go Go.Lib

def hexOk (n many : Int) : Prop := 0 ≤ n ∧ n < ((2 ^ (4 * many).toNat : Nat) : Int)
instance (n many : Int) : Decidable (hexOk n many) := by unfold hexOk; infer_instance
def hexE (n many : Int) : Int := if many < 1 ∨ many > 15 then 2 else if hexOk n many then 0 else 3
def hexL (n many : Int) : List UInt8 := if many < 1 ∨ many > 15 then [] else if hexOk n many then hexS n.toNat many.toNat else []

theorem lay16_calls (u : Nat) (h : u < 18446744073709551616) (w : World) : Calls Tryd.prog 16 #[.int .u64 (u : Int), .int .u64 16] w fun e w' => e = .returned (.string (str (digs 16 u))) ∧ Below w.heap.size w w' :=
  num_lay.calls 300 (u : Int) 16 _ w (lay_f 16 (.inr rfl) 300 u h (by omega))

theorem pow_bits (q : Nat) (h : q ≤ 15) : 1 ≤ 2 ^ (4 * q) ∧ 2 ^ (4 * q) ≤ 1152921504606846976 := by
  have h1 : 2 ^ 0 ≤ 2 ^ (4 * q) := Nat.pow_le_pow_right (by omega) (by omega)
  have h2 : 2 ^ (4 * q) ≤ 2 ^ 60 := Nat.pow_le_pow_right (by omega) (by omega)
  exact ⟨h1, h2⟩

set_option maxHeartbeats 2000000 in
theorem hex_calls (n many : Int) (w : World) :
    Calls Tryd.prog 10 #[.int .i64 n, .int .i64 many] w fun e w' => e = .returned (.tuple #[.string (str (hexL n many)), .int .i64 (hexE n many)]) ∧ Below w.heap.size w w' := by
  have emp : Hid ((⟨#[]⟩ : ByteArray) = str []) := hid rfl
  by_cases hm : many < 1 ∨ many > 15
  · have hR : Hid (hexE n many = 2 ∧ hexL n many = []) := hid (by unfold hexE hexL; rw [if_pos hm, if_pos hm]; exact ⟨rfl, rfl⟩)
    by_cases h1 : many < 1
    · clear hm
      go_enter Tryd.func10, Tryd.ntmps10
      go_wp2
      go_ret2
      exact ⟨by rw [hR.out.1, hR.out.2]; rfl, Below.refl _ _⟩
    · have h2 : many > 15 := by omega
      clear hm
      go_enter Tryd.func10, Tryd.ntmps10
      go_wp2
      go_ret2
      exact ⟨by rw [hR.out.1, hR.out.2]; rfl, Below.refl _ _⟩
  have h1 : ¬ many < 1 := by omega
  have h2 : ¬ many > 15 := by omega
  have h2' : ¬ 15 < many := by omega
  by_cases h3 : n < 0
  · have hR : Hid (hexE n many = 3 ∧ hexL n many = []) := hid (by unfold hexE hexL; rw [if_neg hm, if_neg hm, if_neg (by unfold hexOk; omega), if_neg (by unfold hexOk; omega)]; exact ⟨rfl, rfl⟩)
    clear hm
    go_enter Tryd.func10, Tryd.ntmps10
    go_wp2
    go_ret2
    exact ⟨by rw [hR.out.1, hR.out.2]; rfl, Below.refl _ _⟩
  obtain ⟨q, rfl⟩ : ∃ q : Nat, many = (q : Int) := ⟨many.toNat, by omega⟩
  obtain ⟨u, rfl⟩ : ∃ u : Nat, n = (u : Int) := ⟨n.toNat, by omega⟩
  have hq4 : (4 * (q : Int)).toNat = 4 * q := by omega
  have e1 : wrap64 (4 * (q : Int)) = 4 * (q : Int) := w64 _ (by omega) (by omega)
  have h0 : 0 ≤ 4 * (q : Int) := by omega
  have h64 : 4 * (q : Int) ≤ 64 := by omega
  have hpb := pow_bits q (by omega)
  have hdiv : ((u : Int) / 2 ^ (4 * q)) = ((u / 2 ^ (4 * q) : Nat) : Int) := by simp
  by_cases h4 : u < 2 ^ (4 * q)
  · have hR : Hid (hexE u q = 0 ∧ hexL u q = hexS u q) := hid (by
      unfold hexE hexL
      rw [if_neg hm, if_neg hm, if_pos (by unfold hexOk; rw [hq4]; omega), if_pos (by unfold hexOk; rw [hq4]; omega)]; exact ⟨rfl, by simp⟩)
    have d0 : decide (0 < (u : Int) / 2 ^ (4 * q)) = false := decide_eq_false (by rw [hdiv, Nat.div_eq_of_lt h4]; simp)
    have eu : IntKind.u64.wrap (u : Int) = (u : Int) := u64_w u (by omega)
    have hX : (digs 16 u).length ≤ q ∧ repeatL [48] (q - (digs 16 u).length) ++ digs 16 u = hexS u q := by
      obtain ⟨m, rfl⟩ : ∃ m, q = m + 1 := ⟨q - 1, by omega⟩
      exact hex_eq m u (by rw [show (16 : Nat) ^ (m + 1) = 2 ^ (4 * (m + 1)) from by rw [show (16 : Nat) = 2 ^ 4 from rfl, ← Nat.pow_mul]]; exact h4)
    obtain ⟨hX1, hX2⟩ := hX
    have hLay := hid (lay16_calls u (by omega))
    obtain ⟨t, ht⟩ : ∃ t, t = str (digs 16 u) := ⟨_, rfl⟩
    have hts : t.size = (digs 16 u).length := by rw [ht, str_size]
    have es : (q : Int) - (t.size : Int) = ((q - (digs 16 u).length : Nat) : Int) := by rw [hts]; omega
    obtain ⟨c, hc⟩ : ∃ c : Nat, c = q - (digs 16 u).length := ⟨_, rfl⟩
    have hRep := hid (fun w => Tryd.strings_Repeat ⟨#[48]⟩ c w (by omega) (by show 1 * c ≤ _; omega))
    obtain ⟨v, hv⟩ : ∃ v : ByteArray, v = ⟨(repeatL (⟨#[48]⟩ : ByteArray).data.toList c).toArray⟩ := ⟨_, rfl⟩
    have hvs : v.size = c := by rw [hv]; show (repeatL [48] c).toArray.size = c; simp [repeatL_length]
    have hadd : v.size + t.size ≤ 9223372036854775807 := by omega
    have hF : Hid (v ++ t = str (hexS u q)) := hid (by
      rw [hv, ht, ← hX2, ← hc, ← str_app]; rfl)
    rw [← ht] at hLay
    rw [← hv] at hRep
    rw [← hc] at es
    rw [← es] at hRep
    have hT := hid hts
    clear es hX1 hX2 hpb h4 hdiv hm ht hv hts hvs
    go_enter Tryd.func10, Tryd.ntmps10
    go_wp2_with (first
      | (go_at_call 16; refine (hLay.out _).mono ?_; rintro r w1 ⟨rfl, hb1⟩)
      | (go_at_call 17; refine (hRep.out _).mono ?_; rintro r w2 ⟨rfl, hb2⟩))
    go_ret2
    exact ⟨by rw [hR.out.1, hR.out.2, hF.out]; rfl, hb1.trans (Below.mono hb2 hb1.size)⟩
  · have hR : Hid (hexE u q = 3 ∧ hexL u q = []) := hid (by
      unfold hexE hexL
      rw [if_neg hm, if_neg hm, if_neg (by unfold hexOk; rw [hq4]; omega), if_neg (by unfold hexOk; rw [hq4]; omega)]; exact ⟨rfl, rfl⟩)
    have d0 : decide (0 < (u : Int) / 2 ^ (4 * q)) = true := decide_eq_true (by
      rw [hdiv]
      have := Nat.div_pos (show 2 ^ (4 * q) ≤ u by omega) (by omega)
      omega)
    clear hm hdiv h4 hpb
    go_enter Tryd.func10, Tryd.ntmps10
    go_wp2
    go_ret2
    exact ⟨by rw [hR.out.1, hR.out.2]; rfl, Below.refl _ _⟩
end Go.Proofs.YtjknkmidcmiefaaDoor.Digs
