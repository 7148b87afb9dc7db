import Derived.Test.YtjknkmidcmiefaaDoorDigs3
/-! Plain law of the digits to a base of 16. -/
namespace Go.Proofs.YtjknkmidcmiefaaDoor.Digs
open Go.RowKit Go.Proofs.YtjknkmidcmiefaaDoorW.PrintWords Go.Proofs.YtjknkmidcmiefaaDoor.PN
open Go Go.Lib

def hexS : Nat → Nat → List UInt8
  | _, 0 => []
  | n, m + 1 => hexS (n / 16) m ++ [dg (n % 16)]
theorem hexS_len : ∀ m n, (hexS n m).length = m
  | 0, _ => rfl
  | m + 1, n => by simp [hexS, hexS_len m]
theorem hexS_zero : ∀ m, hexS 0 m = repeatL [48] m
  | 0 => rfl
  | m + 1 => by rw [hexS, Nat.zero_div, hexS_zero m, repeatL_add, repeatL_one]; rfl
theorem hex_eq (m : Nat) : ∀ n, n < 16 ^ (m + 1) → (digs 16 n).length ≤ m + 1 ∧ repeatL [48] (m + 1 - (digs 16 n).length) ++ digs 16 n = hexS n (m + 1) := by
  induction m with
  | zero =>
    intro n h
    have h' : n < 16 := h
    rw [digs_small h']
    simp [hexS, repeatL, Nat.mod_eq_of_lt h']
  | succ m ih =>
    intro n h
    by_cases h1 : n < 16
    · rw [digs_small h1]
      refine ⟨by simp, ?_⟩
      rw [hexS, Nat.div_eq_of_lt h1, hexS_zero, Nat.mod_eq_of_lt h1]
      rfl
    · obtain ⟨a, b⟩ := ih (n / 16) (by rw [Nat.div_lt_iff_lt_mul (by omega)]; rw [Nat.pow_succ] at h; exact h)
      rw [digs_big (by omega) (by omega), hexS, ← b]
      refine ⟨by simp; omega, ?_⟩
      rw [List.length_append, List.length_singleton, show m + 1 + 1 - ((digs 16 (n / 16)).length + 1) = m + 1 - (digs 16 (n / 16)).length from by omega]
      simp

theorem rhex_f : ∀ (m k n : Nat), n < 4611686018427387904 → m ≤ 60 → m < k → temperaref03_Hex.f k (n : Int) (m : Int) = some (str (hexS n m))
  | m, 0, n, _, _, h => by omega
  | 0, k + 1, n, h, hm, hk => by rw [temperaref03_Hex.f, if_pos (by omega)]; rfl
  | m + 1, k + 1, n, h, hm, hk => by
    rw [temperaref03_Hex.f, if_neg (by omega)]
    rw [show Int.tdiv (n : Int) 16 = ((n / 16 : Nat) : Int) from (Int.ofNat_tdiv n 16).symm, show Int.tmod (n : Int) 16 = ((n % 16 : Nat) : Int) from (Int.ofNat_tmod n 16).symm]
    rw [show wrap64 ((n / 16 : Nat) : Int) = ((n / 16 : Nat) : Int) from by unfold wrap64; omega, show wrap64 (((m + 1 : Nat) : Int) - 1) = (m : Int) from by unfold wrap64; omega]
    rw [rhex_f m k (n / 16) (by omega) (by omega) (by omega)]
    simp only [Option.bind_some]
    rw [show wrap64 (87 + ((n % 16 : Nat) : Int)) = ((87 + n % 16 : Nat) : Int) from by unfold wrap64; omega, show wrap64 (48 + ((n % 16 : Nat) : Int)) = ((48 + n % 16 : Nat) : Int) from by unfold wrap64; omega, one_str _ (by omega), one_str _ (by omega), str_size, str_size, str_size, hexS_len]
    have hL : ∀ c : UInt8, m + [c].length ≤ 9223372036854775807 := by intro c; simp only [List.length_cons, List.length_nil]; omega
    rw [hexS]
    simp only [dg]
    by_cases h9 : n % 16 < 10
    · rw [if_neg (by omega), if_pos (hL _), str_app, if_pos h9]
    · rw [if_pos (by omega), if_pos (hL _), str_app, if_neg h9]

theorem power_l0 : ∀ (k : Nat) (e i : Nat) (p : Int), i ≤ e → e ≤ 60 → p = ((2 ^ i : Nat) : Int) → e - i < k → temperaref01_Power.l0 k (e : Int) p (i : Int) = some ((2 ^ e : Nat) : Int)
  | 0, e, i, p, h1, h2, h3, h4 => by omega
  | k + 1, e, i, p, h1, h2, h3, h4 => by
    rw [temperaref01_Power.l0]
    by_cases h : i < e
    · rw [if_pos (by omega)]
      have hp : 2 ^ i ≤ 2 ^ 59 := Nat.pow_le_pow_right (by omega) (by omega)
      have hp : 2 ^ i ≤ 576460752303423488 := hp
      rw [show wrap64 ((i : Int) + 1) = ((i + 1 : Nat) : Int) from by unfold wrap64; omega]
      refine power_l0 k e (i + 1) _ (by omega) h2 ?_ (by omega)
      subst h3
      rw [Nat.pow_succ]
      generalize 2 ^ i = q at *
      unfold wrap64; omega
    · rw [if_neg (by omega), h3, show i = e from by omega]
theorem power_f (k e : Nat) (he : e ≤ 60) (hk : 70 ≤ k) : temperaref01_Power.f k (e : Int) = some ((2 ^ e : Nat) : Int) :=
  power_l0 k e 0 1 (by omega) he rfl (by omega)

/-! ### Unhex -/
def hv (c : UInt8) : Option Nat := if 48 ≤ c.toNat ∧ c.toNat ≤ 57 then some (c.toNat - 48) else if 97 ≤ c.toNat ∧ c.toNat ≤ 102 then some (c.toNat - 87) else none
def uh : Nat → List UInt8 → Option Nat
  | acc, [] => some acc
  | acc, c :: r => match hv c with | none => none | some d => uh (acc * 16 + d) r
theorem hv_lt {c : UInt8} {d : Nat} (h : hv c = some d) : d < 16 := by
  unfold hv at h
  split at h
  · injection h with h; omega
  · split at h
    · injection h with h; omega
    · cases h
theorem hv_dg (d : Nat) (h : d < 16) : hv (dg d) = some d := by
  have := dg_toNat d h
  unfold hv
  rw [this]
  by_cases h1 : d < 10
  · rw [if_pos h1, if_pos (by omega)]; congr 1; omega
  · rw [if_neg h1, if_neg (by omega), if_pos (by omega)]; congr 1; omega
theorem uh_app (l : List UInt8) (c : UInt8) : ∀ acc, uh acc (l ++ [c]) = (uh acc l).bind fun v => uh v [c] := by
  induction l with
  | nil => intro acc; rfl
  | cons a r ih =>
    intro acc
    simp only [List.cons_append]
    rw [uh, uh]
    split
    · rfl
    · exact ih _
theorem uh_hexS : ∀ m n, n < 16 ^ m → uh 0 (hexS n m) = some n
  | 0, n, h => by
    have : n = 0 := by simpa using h
    subst this; rfl
  | m + 1, n, h => by
    rw [hexS, uh_app, uh_hexS m (n / 16) (by rw [Nat.div_lt_iff_lt_mul (by omega)]; rw [Nat.pow_succ] at h; exact h)]
    simp only [Option.bind_some, uh]
    rw [hv_dg _ (by omega)]
    simp only
    congr 1; omega
def unhexS (l : List UInt8) : Option Nat := if l.length < 1 ∨ l.length > 15 then none else uh 0 l
theorem unhexS_hexS (n m : Nat) (h1 : 1 ≤ m) (h2 : m ≤ 15) (h : n < 16 ^ m) : unhexS (hexS n m) = some n := by
  unfold unhexS; rw [hexS_len, if_neg (by omega), uh_hexS m n h]

def ix : List UInt8 := [48, 49, 50, 51, 52, 53, 54, 55, 56, 57, 97, 98, 99, 100, 101, 102]
set_option maxRecDepth 100000 in
theorem ix_eq (c : UInt8) : indexByte ix c = match hv c with | some d => (d : Int) | none => -1 := by
  have h : ∀ n : Fin 256, indexByte ix (UInt8.ofNat n.val) = match hv (UInt8.ofNat n.val) with | some d => (d : Int) | none => -1 := by decide
  have := h ⟨c.toNat, c.toNat_lt⟩
  simpa using this

theorem w64 (n : Int) (h1 : -9223372036854775808 ≤ n) (h2 : n ≤ 9223372036854775807) : wrap64 n = n := by unfold wrap64; omega
theorem hexstep (acc c s : Nat) (ha : acc < 72057594037927936) (hc : c < 256) (hs : s ≤ c) : wrap64 ((wrap64 ((wrap64 ((acc : Int) * 16)) + (c : Int))) - (s : Int)) = ((acc * 16 + (c - s) : Nat) : Int) := by
  rw [w64 ((acc : Int) * 16) (by omega) (by omega), w64 ((acc : Int) * 16 + c) (by omega) (by omega), w64 _ (by omega) (by omega)]
  omega
theorem runhex_l0 (l : List UInt8) (hl : l.length ≤ 15) : ∀ (r p : List UInt8) (acc k : Nat) (i : Int), l = p ++ r → i = p.length → acc < 16 ^ p.length → 2 * r.length + 1 ≤ k →
    temperaref03_Unhex.l0 k (str l) (acc : Int) i = match uh acc r with | none => some (0, false) | some u => some ((u : Int), true) := by
  intro r
  induction r with
  | nil =>
    intro p acc k i e hi ha hk
    obtain ⟨k, rfl⟩ : ∃ q, k = q + 1 := ⟨k - 1, by omega⟩
    rw [temperaref03_Unhex.l0, str_size, if_neg (by rw [hi, e]; simp)]
    rfl
  | cons c r ih =>
    intro p acc k i e hi ha hk
    have hpl : p.length + (r.length + 1) ≤ 15 := by rw [e] at hl; simpa using hl
    obtain ⟨k, rfl⟩ : ∃ q, k = q + 2 := ⟨k - 2, by simp at hk; omega⟩
    have hc := c.toNat_lt
    have hb : bt (str l) i = c.toNat := by rw [e]; exact bt_str p r c i hi
    have hq : acc < 72057594037927936 := by
      have : (16 : Nat) ^ p.length ≤ 16 ^ 14 := Nat.pow_le_pow_right (by omega) (by omega)
      have h14 : (16 : Nat) ^ 14 = 72057594037927936 := by decide
      omega
    rw [temperaref03_Unhex.l0, str_size, if_pos (by rw [hi, e]; simp; omega), if_pos (by omega), hb]
    rw [show wrap64 (c.toNat : Int) = (c.toNat : Int) from by unfold wrap64; omega]
    have hw : wrap64 (i + 1) = (((p ++ [c]).length : Nat) : Int) := by rw [hi]; unfold wrap64; simp; omega
    have hlt : ∀ d, d < 16 → acc * 16 + d < 16 ^ (p ++ [c]).length := by
      intro d hd
      rw [List.length_append, List.length_singleton, Nat.pow_succ]; omega
    rw [uh]
    have hih : ∀ d, d < 16 → temperaref03_Unhex.l0 k (str l) ((acc * 16 + d : Nat) : Int) (wrap64 (i + 1)) = match uh (acc * 16 + d) r with | none => some (0, false) | some u => some ((u : Int), true) :=
      fun d hd => ih (p ++ [c]) _ k _ (by rw [e]; simp) hw (hlt d hd) (by simp at hk; omega)
    by_cases h48 : c.toNat ≥ 48
    · rw [if_pos (by omega), temperaref03_Unhex.j2]
      by_cases h57 : c.toNat ≤ 57
      · rw [if_pos (by simp; omega)]
        rw [show wrap64 ((wrap64 ((wrap64 ((acc : Int) * 16)) + (c.toNat : Int))) - 48) = ((acc * 16 + (c.toNat - 48) : Nat) : Int) from hexstep acc c.toNat 48 hq hc h48]
        rw [hih _ (by omega), show hv c = some (c.toNat - 48) from by unfold hv; rw [if_pos (by omega)]]
      · rw [if_neg (by simp; omega)]
        by_cases h97 : c.toNat ≥ 97
        · rw [if_pos (by omega)]
          by_cases h102 : c.toNat ≤ 102
          · rw [if_pos (by omega)]
            rw [show wrap64 ((wrap64 ((wrap64 ((acc : Int) * 16)) + (c.toNat : Int))) - 87) = ((acc * 16 + (c.toNat - 87) : Nat) : Int) from hexstep acc c.toNat 87 hq hc (by omega)]
            rw [hih _ (by omega), show hv c = some (c.toNat - 87) from by unfold hv; rw [if_neg (by omega), if_pos (by omega)]]
          · rw [if_neg (by omega), show hv c = none from by unfold hv; rw [if_neg (by omega), if_neg (by omega)]]
        · rw [if_neg (by omega), show hv c = none from by unfold hv; rw [if_neg (by omega), if_neg (by omega)]]
    · rw [if_neg (by omega), temperaref03_Unhex.j2, if_neg (by simp), if_neg (by omega), show hv c = none from by unfold hv; rw [if_neg (by omega), if_neg (by omega)]]
theorem runhex_f (k : Nat) (l : List UInt8) (hk : 300 ≤ k) : temperaref03_Unhex.f k (str l) = some (match unhexS l with | some v => ((v : Int), true) | none => (0, false)) := by
  obtain ⟨k, rfl⟩ : ∃ q, k = q + 1 := ⟨k - 1, by omega⟩
  unfold temperaref03_Unhex.f unhexS
  rw [str_size]
  by_cases h1 : l.length < 1
  · rw [if_pos (by omega), temperaref03_Unhex.j0, if_pos rfl, if_pos (by omega)]
  · rw [if_neg (by omega), temperaref03_Unhex.j0]
    by_cases h2 : l.length > 15
    · rw [if_pos (by simp; omega), if_pos (by omega)]
    · rw [if_neg (by simp; omega), if_neg (by omega)]
      have := runhex_l0 l (by omega) l [] 0 k 0 rfl rfl (by simp) (by omega)
      rw [show ((0 : Nat) : Int) = 0 from rfl] at this
      rw [this]
      cases uh 0 l <;> rfl
end Go.Proofs.YtjknkmidcmiefaaDoor.Digs
