import Derived.Test.YthfmmkgdheemhaaSmall
namespace Go.Proofs.Ythfmmkgdheemhaa
open Go.RowKit
open Go

theorem i64_or_low (i a b : Nat) (hb : b < 2 ^ i) (hl : 2 ^ i * a + b < 9223372036854775808) : bits .or .i64 ((2 ^ i * a : Nat) : Int) (b : Int) = ((2 ^ i * a + b : Nat) : Int) := by
  have h1 : (BitVec.ofInt 64 ((2 ^ i * a : Nat) : Int)).toNat = 2 ^ i * a := by
    rw [BitVec.ofInt_natCast, BitVec.toNat_ofNat]; exact Nat.mod_eq_of_lt (by omega)
  have h2 : (BitVec.ofInt 64 (b : Int)).toNat = b := by
    rw [BitVec.ofInt_natCast, BitVec.toNat_ofNat]; exact Nat.mod_eq_of_lt (by omega)
  show IntKind.i64.wrap ((BitVec.ofInt 64 ((2 ^ i * a : Nat) : Int) ||| BitVec.ofInt 64 (b : Int)).toNat : Int) = _
  rw [BitVec.toNat_or, h1, h2, ← Nat.two_pow_add_eq_or_of_lt hb]
  generalize 2 ^ i * a + b = q at hl
  simp [IntKind.wrap, IntKind.bits, IntKind.signed]
  split <;> omega
theorem or24 (a b : Int) (h0 : 0 ≤ a) (h1 : a ≤ 255) (h2 : 0 ≤ b) (h3 : b ≤ 255) : bits .or .i64 (a * 16777216) (b * 65536) = a * 16777216 + b * 65536 := by
  obtain ⟨a, rfl⟩ : ∃ q : Nat, a = q := ⟨a.toNat, by omega⟩
  obtain ⟨b, rfl⟩ : ∃ q : Nat, b = q := ⟨b.toNat, by omega⟩
  have := i64_or_low 24 a (b * 65536) (by omega) (by omega)
  rw [show ((2 ^ 24 * a : Nat) : Int) = (a : Int) * 16777216 from by omega, show ((b * 65536 : Nat) : Int) = (b : Int) * 65536 from by omega] at this
  rw [this]; omega
theorem or16 (a b : Int) (h0 : 0 ≤ a) (h1 : a ≤ 65535) (h2 : 0 ≤ b) (h3 : b ≤ 255) : bits .or .i64 (a * 65536) (b * 256) = a * 65536 + b * 256 := by
  obtain ⟨a, rfl⟩ : ∃ q : Nat, a = q := ⟨a.toNat, by omega⟩
  obtain ⟨b, rfl⟩ : ∃ q : Nat, b = q := ⟨b.toNat, by omega⟩
  have := i64_or_low 16 a (b * 256) (by omega) (by omega)
  rw [show ((2 ^ 16 * a : Nat) : Int) = (a : Int) * 65536 from by omega, show ((b * 256 : Nat) : Int) = (b : Int) * 256 from by omega] at this
  rw [this]; omega
theorem or8 (a b : Int) (h0 : 0 ≤ a) (h1 : a ≤ 16777215) (h2 : 0 ≤ b) (h3 : b ≤ 255) : bits .or .i64 (a * 256) b = a * 256 + b := by
  obtain ⟨a, rfl⟩ : ∃ q : Nat, a = q := ⟨a.toNat, by omega⟩
  obtain ⟨b, rfl⟩ : ∃ q : Nat, b = q := ⟨b.toNat, by omega⟩
  have := i64_or_low 8 a b (by omega) (by omega)
  rw [show ((2 ^ 8 * a : Nat) : Int) = (a : Int) * 256 from by omega] at this
  rw [this]; omega
def packV (r g b a : Int) : Int := ((r * 256 + g) * 256 + b) * 256 + a
attribute [local go_sem] grow_cell grow_frozen grow_setCell
set_option maxHeartbeats 2000000 in
set_option maxRecDepth 100000 in
theorem pack_calls (r g b a : Int) (h : colOk r g b a = true) (w : World) : Calls Try.prog 9 #[col r g b a] w fun e w' => e = .returned (.tuple #[.int .i64 (packV r g b a), .int .i64 0]) ∧ Grew w w' := by
  have H := Lib.hid (tintRight_calls r g b a)
  rw [h] at H
  have hh := of_decide_eq_true h
  obtain ⟨r0, r1, g0, g1, b0, b1, a0, a1⟩ := hh
  have e1 : wrap64 (r * 16777216) = r * 16777216 := by unfold wrap64; omega
  have e2 : wrap64 (g * 65536) = g * 65536 := by unfold wrap64; omega
  have e3 : wrap64 (b * 256) = b * 256 := by unfold wrap64; omega
  have o1 := or24 r g r0 r1 g0 g1
  have o2 : bits .or .i64 (r * 16777216 + g * 65536) (b * 256) = r * 16777216 + g * 65536 + b * 256 := by
    have := or16 (r * 256 + g) b (by omega) (by omega) b0 b1
    rw [show (r * 256 + g) * 65536 = r * 16777216 + g * 65536 from by omega] at this
    exact this
  have o3 : bits .or .i64 (r * 16777216 + g * 65536 + b * 256) a = r * 16777216 + g * 65536 + b * 256 + a := by
    have := or8 (r * 65536 + g * 256 + b) a (by omega) (by omega) a0 a1
    rw [show (r * 65536 + g * 256 + b) * 256 = r * 16777216 + g * 65536 + b * 256 from by omega] at this
    exact this
  have hP : Hid (packV r g b a = r * 16777216 + g * 65536 + b * 256 + a) := Lib.hid (by unfold packV; omega)
  unfold col at H ⊢
  clear h r0 r1 g0 g1 b0 b1 a0 a1
  go_enter Try.func9, Try.ntmps9
  go_wp2_with (go_at_call 16; with_reducible refine (H.out _).mono ?_; rintro e w1 ⟨rfl, hg⟩; obtain ⟨n1, s1, rfl⟩ := hg.ex)
  go_ret2
  refine ⟨?_, ((Grew.refl w).alloc _).trans (Grew.of _ _)⟩
  rw [hP.out]
  first | rfl | (simp [o1, o2, o3, e1, e2, e3]; done)
end Go.Proofs.Ythfmmkgdheemhaa
