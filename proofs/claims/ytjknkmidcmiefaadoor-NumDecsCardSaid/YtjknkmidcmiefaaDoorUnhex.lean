import Derived.Test.YtjknkmidcmiefaaDoorUndec
namespace Go.Proofs.YtjknkmidcmiefaaDoor.Digs
open Go.RowKit Go.Proofs.YtjknkmidcmiefaaDoorW Go.Proofs.YtjknkmidcmiefaaDoor.PN
open Go Go.Lib

def unhexV (l : List UInt8) : Int := match unhexS l with | some v => (v : Int) | none => 0
def unhexE (l : List UInt8) : Int := match unhexS l with | some _ => 0 | none => 6

def intAt : Value → Int
  | .int _ n => n
  | _ => 0
theorem ix_str : (⟨#[48, 49, 50, 51, 52, 53, 54, 55, 56, 57, 97, 98, 99, 100, 101, 102]⟩ : ByteArray) = str ix := rfl
theorem intAt_int (k : IntKind) (n : Int) : intAt (Value.int k n) = n := rfl
theorem meas (p r l : List UInt8) (c : UInt8) (hl : l = p ++ c :: r) (hs : l.length ≤ 15) : l.length - (intAt (Value.int IntKind.i64 (wrap64 ((p.length : Int) + 1)))).toNat < l.length - (intAt (Value.int IntKind.i64 ((p.length : Int)))).toNat := by
  have h1 : l.length = p.length + (r.length + 1) := by rw [hl]; simp
  rw [w64 ((p.length : Int) + 1) (by omega) (by omega), intAt_int, intAt_int]
  omega
theorem ixb (c : UInt8) (w : World) : Calls Tryd.prog 18 #[.string (⟨#[48, 49, 50, 51, 52, 53, 54, 55, 56, 57, 97, 98, 99, 100, 101, 102]⟩ : ByteArray), .int .u8 (c.toNat : Int)] w fun e w' => e = .returned (.int .i64 (match hv c with | some d => (d : Int) | none => -1)) ∧ w' = w := by
  have := Tryd.strings_IndexByte (str ix) (c.toNat : Int) w
  rw [show ((c.toNat : Int).toNat.toUInt8) = c from by simp, show (str ix).data.toList = ix from rfl, ix_eq] at this
  exact this

set_option maxHeartbeats 2000000 in
theorem unhex_calls (l : List UInt8) (hl : l.length ≤ 1000) (w : World) :
    Calls Tryd.prog 11 #[.string (str l)] w fun e w' => e = .returned (.tuple #[.int .i64 (unhexV l), .int .i64 (unhexE l)]) ∧ w = w' := by
  have hsz := hid (str_size l)
  by_cases h1 : l.length < 1
  · have hR : Hid (unhexV l = 0 ∧ unhexE l = 6) := hid (by unfold unhexV unhexE unhexS; rw [if_pos (.inl h1)]; exact ⟨rfl, rfl⟩)
    have d1 : decide (((str l).size : Int) < 1) = true := decide_eq_true (by rw [hsz.out]; omega)
    go_enter Tryd.func11, Tryd.ntmps11
    go_wp2
    go_ret2
    exact ⟨by rw [hR.out.1, hR.out.2]; rfl, rfl⟩
  have d1 : decide (((str l).size : Int) < 1) = false := decide_eq_false (by rw [hsz.out]; omega)
  by_cases h2 : l.length > 15
  · have hR : Hid (unhexV l = 0 ∧ unhexE l = 6) := hid (by unfold unhexV unhexE unhexS; rw [if_pos (.inr h2)]; exact ⟨rfl, rfl⟩)
    have d2 : decide ((15 : Int) < ((str l).size : Int)) = true := decide_eq_true (by rw [hsz.out]; omega)
    go_enter Tryd.func11, Tryd.ntmps11
    go_wp2
    go_ret2
    exact ⟨by rw [hR.out.1, hR.out.2]; rfl, rfl⟩
  have d2 : decide ((15 : Int) < ((str l).size : Int)) = false := decide_eq_false (by rw [hsz.out]; omega)
  have hR : Hid (unhexS l = uh 0 l) := hid (by unfold unhexS; rw [if_neg (by omega)])
  have hL := hid (show l.length ≤ 15 by omega)
  clear h1 h2 hl
  go_enter Tryd.func11, Tryd.ntmps11
  go_wp2
  go_loop [4, 17] (fun v4 v17 => ∃ (p r : List UInt8) (acc : Nat), v4 = .int .i64 (acc : Int) ∧ v17 = .int .i64 (p.length : Int) ∧ Hid (l = p ++ r) ∧ Hid (acc < 16 ^ p.length) ∧ Hid (uh 0 l = uh acc r)) (fun _ v17 => l.length - (intAt v17).toNat)
  case atStart => exact ⟨[], l, 0, rfl, rfl, hid rfl, hid (by simp), hid rfl⟩
  case round =>
    obtain ⟨p, r, acc, rfl, rfl, HE, HA, HU⟩ := hrel
    cases r with
    | nil =>
      have dl : decide ((p.length : Int) < ((str l).size : Int)) = false := decide_eq_false (by rw [hsz.out, HE.out]; simp)
      have hn : ¬ p.length < (str l).size := by rw [hsz.out, HE.out]; simp
      clear dl
      go_wp2
      go_ret2
      refine ⟨?_, rfl⟩
      unfold unhexV unhexE
      rw [hR.out, HU.out]; rfl
    | cons c r =>
      have hpl : Hid (p.length + (r.length + 1) ≤ 15) := hid (by have := hL.out; rw [HE.out] at this; simpa using this)
      have dl : decide ((p.length : Int) < ((str l).size : Int)) = true := decide_eq_true (by rw [hsz.out, HE.out]; simp; omega)
      have p7 : (0 ≤ (p.length : Int)) = True := eq_true (by omega)
      have q7 : ((p.length : Int) < ((str l).size : Int)) = True := eq_true (of_decide_eq_true dl)
      have hlt : p.length < (str l).size := by rw [hsz.out, HE.out]; simp
      have hx : ((((str l)[p.length]'hlt).toNat : Nat) : Int) = (c.toNat : Int) := by
        have h1 := PrintWords.bt_at (str l) (p.length : Int) hlt
        rw [show PrintWords.bt (str l) (p.length : Int) = PrintWords.bt (str (p ++ c :: r)) (p.length : Int) from by rw [← HE.out], bt_str p r c _ rfl] at h1
        exact h1
      have hb : wrap64 ((p.length : Int) + 1) = (((p ++ [c]).length : Nat) : Int) := by have := hpl.out; unfold wrap64; simp; omega
      have hq : acc < 72057594037927936 := by
        have : (16 : Nat) ^ p.length ≤ 16 ^ 14 := Nat.pow_le_pow_right (by omega) (by have := hpl.out; omega)
        have h14 : (16 : Nat) ^ 14 = 72057594037927936 := by decide
        have := HA.out
        omega
      have hI := hid (ixb c w)
      cases hd : hv c with
      | none =>
        have hI := hid (show Calls Tryd.prog 18 #[.string (⟨#[48, 49, 50, 51, 52, 53, 54, 55, 56, 57, 97, 98, 99, 100, 101, 102]⟩ : ByteArray), .int .u8 (c.toNat : Int)] w fun e w' => e = .returned (.int .i64 (-1)) ∧ w' = w from by have := hI.out; rw [hd] at this; exact this)
        have hF := hid (show uh 0 l = none from by rw [HU.out, uh, hd])
        clear hd
        go_wp2_with (go_at_call 18; refine hI.out.mono ?_; rintro r w1 ⟨rfl, rfl⟩)
        go_ret2
        refine ⟨?_, rfl⟩
        unfold unhexV unhexE
        rw [hR.out, hF.out]; rfl
      | some d =>
        have hd16 := hv_lt hd
        have hI := hid (show Calls Tryd.prog 18 #[.string (⟨#[48, 49, 50, 51, 52, 53, 54, 55, 56, 57, 97, 98, 99, 100, 101, 102]⟩ : ByteArray), .int .u8 (c.toNat : Int)] w fun e w' => e = .returned (.int .i64 (d : Int)) ∧ w' = w from by have := hI.out; rw [hd] at this; exact this)
        have hF := hid (show uh 0 l = uh (acc * 16 + d) r from by rw [HU.out, uh, hd])
        have d0 : decide ((d : Int) < 0) = false := decide_eq_false (by omega)
        have e1 : wrap64 ((acc : Int) * 16) = (acc : Int) * 16 := w64 _ (by omega) (by omega)
        have e2 : wrap64 ((acc : Int) * 16 + (d : Int)) = ((acc * 16 + d : Nat) : Int) := by rw [w64 _ (by omega) (by omega)]; omega
        have hlt := hid (show acc * 16 + d < 16 ^ (p ++ [c]).length from by
          have := HA.out
          rw [List.length_append, List.length_singleton, Nat.pow_succ]; omega)
        clear hd hq hd16
        have hM := hid (meas p r l c HE.out hL.out)
        go_wp2_with (go_at_call 18; refine hI.out.mono ?_; rintro r w1 ⟨rfl, rfl⟩)
        go_round
        case rel => exact ⟨p ++ [c], r, acc * 16 + d, by go_num, by go_num, hid (by rw [HE.out]; simp), hlt, hF⟩
        case measure => exact hM.out
end Go.Proofs.YtjknkmidcmiefaaDoor.Digs
