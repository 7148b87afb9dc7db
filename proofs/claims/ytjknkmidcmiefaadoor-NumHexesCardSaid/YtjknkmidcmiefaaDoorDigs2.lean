import Derived.Test.YtjknkmidcmiefaaDoorDigs
/-! Plain law of the digits, on: the reference's Dec and what is read back. -/
namespace Go.Proofs.YtjknkmidcmiefaaDoor.Digs
open Go.RowKit Go.Proofs.YtjknkmidcmiefaaDoorW.PrintWords Go.Proofs.YtjknkmidcmiefaaDoor.PN
open Go Go.Lib

theorem tdiv_neg10 (n : Int) (h : n < 0) : Int.tdiv n 10 = -(((-n).toNat / 10 : Nat) : Int) := by
  obtain ⟨q, rfl⟩ : ∃ q : Nat, n = -(q : Int) := ⟨(-n).toNat, by omega⟩
  rw [Int.neg_tdiv, show Int.tdiv (q : Int) 10 = ((q / 10 : Nat) : Int) from (Int.ofNat_tdiv q 10).symm]
  simp
theorem tmod_neg10 (n : Int) (h : n < 0) : Int.tmod n 10 = -(((-n).toNat % 10 : Nat) : Int) := by
  obtain ⟨q, rfl⟩ : ∃ q : Nat, n = -(q : Int) := ⟨(-n).toNat, by omega⟩
  rw [Int.neg_tmod, show Int.tmod (q : Int) 10 = ((q % 10 : Nat) : Int) from (Int.ofNat_tmod q 10).symm]
  simp

theorem one_str (c : Nat) (h : c < 256) : strOfNums [((c : Int)) % 256] = str [UInt8.ofNat c] := by
  rw [Int.emod_eq_of_lt (by omega) (by omega)]
  rfl

theorem rdec_f (m : Nat) : ∀ (k : Nat) (n : Int), i64 n → n.natAbs < 10 ^ (m + 1) → m < 30 → m < k → temperaref03_Dec.f k n = some (str (decS n)) := by
  induction m with
  | zero =>
    intro k n h h1 _ hk
    obtain ⟨k, rfl⟩ : ∃ q, k = q + 1 := ⟨k - 1, by omega⟩
    rw [temperaref03_Dec.f]
    unfold decS
    have h1' : n.natAbs < 10 := h1
    by_cases h0 : n < 0
    · rw [if_pos h0, if_pos (by omega), if_pos h0, digs_small (by omega)]
      simp only [Option.bind_some]
      rw [show wrap64 (48 - n) = ((48 + (-n).toNat : Nat) : Int) from by unfold wrap64; omega, one_str _ (by omega), str_size]
      rw [if_pos (by simp), show (⟨#[45]⟩ : ByteArray) = str [45] from rfl, str_app]
      simp only [dg]
      rw [if_pos (by omega)]
      rfl
    · rw [if_neg h0, if_pos (by omega), if_neg h0, digs_small (by omega)]
      rw [show wrap64 (48 + n) = ((48 + n.toNat : Nat) : Int) from by unfold wrap64; omega, one_str _ (by omega)]
      simp only [dg]
      rw [if_pos (by omega)]
  | succ m ih =>
    intro k n h h1 hm hk
    by_cases hs : n.natAbs < 10 ^ (m + 1)
    · exact ih k n h hs (by omega) (by omega)
    have h10 : 10 ≤ n.natAbs := by
      have : 10 ^ 1 ≤ 10 ^ (m + 1) := Nat.pow_le_pow_right (by omega) (by omega)
      omega
    obtain ⟨k, rfl⟩ : ∃ q, k = q + 1 := ⟨k - 1, by omega⟩
    rw [temperaref03_Dec.f]
    unfold decS
    have hp : n.natAbs / 10 < 10 ^ (m + 1) := by
      rw [Nat.div_lt_iff_lt_mul (by omega)]; rw [Nat.pow_succ] at h1; exact h1
    obtain ⟨hl, hh⟩ := h
    by_cases h0 : n < 0
    · rw [if_pos h0, if_neg (by omega), if_pos h0, tdiv_neg10 _ h0, tmod_neg10 _ h0]
      have e1 : wrap64 (-(((-n).toNat / 10 : Nat) : Int)) = -(((-n).toNat / 10 : Nat) : Int) := by unfold wrap64; omega
      rw [e1, ih k _ ⟨by omega, by omega⟩ (by rw [show (-(((-n).toNat / 10 : Nat) : Int)).natAbs = n.natAbs / 10 from by omega]; exact hp) (by omega) (by omega)]
      simp only [Option.bind_some]
      rw [show wrap64 (48 - -(((-n).toNat % 10 : Nat) : Int)) = ((48 + (-n).toNat % 10 : Nat) : Int) from by unfold wrap64; omega, one_str _ (by omega), str_size, str_size]
      have hL : (decS (-(((-n).toNat / 10 : Nat) : Int))).length ≤ 100 := by
        unfold decS
        have hd := digs_len (b := 10) (by omega) m (n.natAbs / 10) hp
        split
        · rw [show (- -(((-n).toNat / 10 : Nat) : Int)).toNat = n.natAbs / 10 from by omega]; simp; omega
        · rw [show (-(((-n).toNat / 10 : Nat) : Int)).toNat = 0 from by omega, digs_small (by omega)]; simp
      rw [if_pos (by simp only [List.length_cons, List.length_nil]; omega), str_app, digs_big (by omega) (by omega)]
      unfold decS
      rw [if_pos (by omega), show (- -(((-n).toNat / 10 : Nat) : Int)).toNat = (-n).toNat / 10 from by omega]
      simp only [dg]
      rw [if_pos (by omega)]
      rfl
    · rw [if_neg h0, if_neg (by omega), if_neg h0]
      obtain ⟨q, rfl⟩ : ∃ q : Nat, n = (q : Int) := ⟨n.toNat, by omega⟩
      rw [show Int.tdiv (q : Int) 10 = ((q / 10 : Nat) : Int) from (Int.ofNat_tdiv q 10).symm, show Int.tmod (q : Int) 10 = ((q % 10 : Nat) : Int) from (Int.ofNat_tmod q 10).symm]
      rw [show wrap64 ((q / 10 : Nat) : Int) = ((q / 10 : Nat) : Int) from by unfold wrap64; omega]
      rw [ih k _ ⟨by omega, by omega⟩ (by rw [Int.natAbs_natCast]; simpa using hp) (by omega) (by omega)]
      simp only [Option.bind_some]
      rw [show wrap64 (48 + ((q % 10 : Nat) : Int)) = ((48 + q % 10 : Nat) : Int) from by unfold wrap64; omega, one_str _ (by omega), str_size, str_size]
      have hL : (decS ((q / 10 : Nat) : Int)).length ≤ 100 := by
        unfold decS
        have hd := digs_len (b := 10) (by omega) m (q / 10) (by simpa using hp)
        rw [if_neg (by omega)]
        simp only [Int.toNat_natCast]; omega
      rw [if_pos (by simp only [List.length_cons, List.length_nil]; omega), str_app, Int.toNat_natCast, digs_big (b := 10) (u := q) (by omega) (by omega)]
      unfold decS
      rw [if_neg (by omega)]
      simp only [dg, Int.toNat_natCast]
      rw [if_pos (by omega)]

/-! ### reading back -/
theorem pm_app (M : Nat) (l : List UInt8) (c : UInt8) : ∀ acc, parseUintM M acc (l ++ [c]) = match parseUintM M acc l with | .ok v => parseUintM M v [c] | Lib.NumEnd.syntax => Lib.NumEnd.syntax | .range => .range := by
  induction l with
  | nil => intro acc; rfl
  | cons a r ih =>
    intro acc
    simp only [List.cons_append, parseUintM]
    split
    · split
      · rfl
      · split
        · rfl
        · exact ih _
    · rfl
theorem pm_digs (m : Nat) : ∀ u, u < 10 ^ (m + 1) → u < 18446744073709551616 → parseUintM 18446744073709551615 0 (digs 10 u) = .ok u := by
  have one : ∀ v d, d < 10 → v * 10 + d < 18446744073709551616 → parseUintM 18446744073709551615 v [dg d] = .ok (v * 10 + d) := by
    intro v d hd hv
    have := dg_toNat d (by omega)
    rw [if_pos hd] at this
    simp only [parseUintM, this]
    rw [if_pos (by omega), if_neg (by omega), if_neg (by omega)]
    congr 1; omega
  induction m with
  | zero => intro u h _; rw [digs_small (by simpa using h), one 0 u (by simpa using h) (by omega)]; simp
  | succ m ih =>
    intro u h h2
    by_cases h1 : u < 10
    · rw [digs_small h1, one 0 u h1 (by omega)]; simp
    · rw [digs_big (by omega) (by omega), pm_app, ih (u / 10) (by rw [Nat.div_lt_iff_lt_mul (by omega)]; rw [Nat.pow_succ] at h; exact h) (by omega)]
      simp only
      rw [one _ _ (by omega) (by omega)]
      congr 1; omega
theorem digs_head (m : Nat) : ∀ u, u < 10 ^ (m + 1) → ∃ c r, digs 10 u = c :: r ∧ 48 ≤ c.toNat ∧ c.toNat ≤ 57 := by
  induction m with
  | zero =>
    intro u h
    refine ⟨_, [], digs_small (by simpa using h), ?_⟩
    have h' : u < 10 := h
    have := dg_toNat u (by omega)
    rw [if_pos h'] at this; omega
  | succ m ih =>
    intro u h
    by_cases h1 : u < 10
    · refine ⟨_, [], digs_small h1, ?_⟩
      have := dg_toNat u (by omega)
      rw [if_pos h1] at this; omega
    · obtain ⟨c, r, e, h3⟩ := ih (u / 10) (by rw [Nat.div_lt_iff_lt_mul (by omega)]; rw [Nat.pow_succ] at h; exact h)
      exact ⟨c, r ++ [dg (u % 10)], by rw [digs_big (by omega) (by omega), e]; rfl, h3⟩

theorem parse_dec (n : Int) (h : i64 n) : parseIntB 64 (decS n) = .ok n := by
  obtain ⟨h1, h2⟩ := h
  unfold decS
  split
  · rename_i h0
    unfold parseIntB parseUintB
    simp only
    rw [show (if (UInt8.toNat 45 = 43 ∨ UInt8.toNat 45 = 45) then digs 10 (-n).toNat else 45 :: digs 10 (-n).toNat) = digs 10 (-n).toNat from if_pos (by decide), if_neg (digs_ne _ _)]
    rw [show (2 ^ 64 - 1 : Nat) = 18446744073709551615 from rfl, pm_digs 25 _ (by omega) (by omega)]
    simp only
    rw [if_neg (by simp), if_neg (by omega)]
    simp; omega
  · rename_i h0
    obtain ⟨c, r, e, h3, h4⟩ := digs_head 25 n.toNat (by omega)
    have hp := pm_digs 25 n.toNat (by omega) (by omega)
    rw [e] at hp ⊢
    unfold parseIntB parseUintB
    simp only
    rw [show (if (c.toNat = 43 ∨ c.toNat = 45) then r else c :: r) = c :: r from if_neg (by omega), if_neg (by simp)]
    rw [show (2 ^ 64 - 1 : Nat) = 18446744073709551615 from rfl, hp]
    simp only
    rw [if_neg (by omega), if_neg (by omega), if_neg (by omega)]
    congr 1; omega
theorem parse_range (l : List UInt8) (v : Int) (h : parseIntB 64 l = .ok v) : i64 v := by
  unfold parseIntB at h
  split at h
  · cases h
  · simp only at h
    split at h
    · cases h
    · cases h
    · split at h
      · cases h
      · split at h
        · cases h
        · injection h with h
          subst h
          unfold i64
          split <;> omega

/-- what num.Undec answers -/
def undecS (l : List UInt8) : Option Int := match parseIntB 64 l with
  | .ok v => if decS v = l then some v else none
  | _ => none
theorem undecS_dec (n : Int) (h : i64 n) : undecS (decS n) = some n := by simp [undecS, parse_dec n h]
theorem undecS_some {l : List UInt8} {n : Int} (h : undecS l = some n) : i64 n ∧ decS n = l := by
  unfold undecS at h
  split at h
  · rename_i v hv
    split at h
    · injection h with h; subst h; exact ⟨parse_range _ _ hv, by assumption⟩
    · cases h
  · cases h
end Go.Proofs.YtjknkmidcmiefaaDoor.Digs
