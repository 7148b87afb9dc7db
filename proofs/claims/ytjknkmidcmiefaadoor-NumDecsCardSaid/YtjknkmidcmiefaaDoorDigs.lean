import Derived.Test.YtjknkmidcmiefaaDoorPNx1
import Derived.Test.YtjknkmidcmiefaaDoorPNx4
import Derived.Test.YtjknkmidcmiefaaDoorPNx5
import Derived.Test.YtjknkmidcmiefaaDoorPNx6
import Derived.Lib.ParseIntB
import Derived.Lib.Repeat
import Derived.Lib.Bytealg
/-! Plain law of the digits: no program in sight. -/
namespace Go.Proofs.YtjknkmidcmiefaaDoor.Digs
open Go.RowKit Go.Proofs.YtjknkmidcmiefaaDoorW.PrintWords Go.Proofs.YtjknkmidcmiefaaDoor.PN

def dg (v : Nat) : UInt8 := if v < 10 then UInt8.ofNat (48 + v) else UInt8.ofNat (87 + v)
theorem dg_toNat (v : Nat) (h : v < 16) : (dg v).toNat = if v < 10 then 48 + v else 87 + v := by
  unfold dg; split <;> simp [UInt8.toNat_ofNat'] <;> omega
def str (l : List UInt8) : ByteArray := ⟨l.toArray⟩
theorem str_app (a b : List UInt8) : str a ++ str b = str (a ++ b) := by
  apply ByteArray.ext; simp [str]
theorem str_size (a : List UInt8) : (str a).size = a.length := by simp [str, ByteArray.size]
theorem str_toList (s : ByteArray) : str s.data.toList = s := by cases s; rfl
theorem str_inj {a b : List UInt8} (h : str a = str b) : a = b := by
  have := congrArg (fun x => x.data.toList) h
  simpa [str] using this

/-- The digits of an amount, to a base. -/
def digs (b u : Nat) : List UInt8 := if _h : b < 2 ∨ u < b then [dg u] else digs b (u / b) ++ [dg (u % b)]
termination_by u
decreasing_by exact Nat.div_lt_self (by omega) (by omega)

theorem digs_small {b u : Nat} (h : u < b) : digs b u = [dg u] := by rw [digs, dif_pos (.inr h)]
theorem digs_big {b u : Nat} (hb : 2 ≤ b) (h : b ≤ u) : digs b u = digs b (u / b) ++ [dg (u % b)] := by
  rw [digs, dif_neg (by omega)]
theorem digs_len {b : Nat} (hb : 2 ≤ b) : ∀ (m u : Nat), u < b ^ (m + 1) → (digs b u).length ≤ m + 1
  | 0, u, h => by rw [digs_small (by simpa using h)]; simp
  | m + 1, u, h => by
    by_cases h1 : u < b
    · rw [digs_small h1]; simp
    · rw [digs_big hb (by omega)]
      have := digs_len hb m (u / b) (by rw [Nat.div_lt_iff_lt_mul (by omega)]; rw [Nat.pow_succ] at h; exact h)
      simp; omega
theorem digs_ne (b u : Nat) : digs b u ≠ [] := by
  rw [digs]; split <;> simp

/-- decimal digits of a whole number. -/
def decS (n : Int) : List UInt8 := if n < 0 then 45 :: digs 10 (-n).toNat else digs 10 n.toNat

/-! ### the program's reverse and lay -/
theorem rev_l0 (k : Nat) : ∀ (xs : List Int) (i j : Int), 0 ≤ i → i + j = xs.length - 1 → j - i < 2 * (k : Int) - 1 → -1 ≤ j - i → (xs.length : Int) < 1099511627776 →
    ∃ ys, slices_Reverse_byte_byte.l0 k xs i j = some ys ∧ ys.length = xs.length ∧ ∀ m : Nat, m < xs.length → ys.getD m 0 = if i ≤ m ∧ (m : Int) ≤ j then xs.getD (xs.length - 1 - m) 0 else xs.getD m 0 := by
  induction k with
  | zero => intro xs i j h0 h1 h2 h3 h4; omega
  | succ k rev_l0 =>
    intro xs i j h0 h1 h2 h3 h4
    rw [slices_Reverse_byte_byte.l0]
    by_cases hij : i < j
    · rw [if_pos hij, if_pos (by omega), if_pos (by omega), if_pos (by omega), if_pos (by omega)]
      rw [show wrap64 (i + 1) = i + 1 from by unfold wrap64; omega, show wrap64 (j - 1) = j - 1 from by unfold wrap64; omega]
      obtain ⟨ys, e, hl, hm⟩ := rev_l0 ((xs.set i.toNat (rd xs j)).set j.toNat (rd xs i)) (i + 1) (j - 1) (by omega) (by simp; omega) (by omega) (by omega) (by simp; omega)
      refine ⟨ys, e, by rw [hl]; simp, fun m hmm => ?_⟩
      rw [hm m (by simp; omega)]
      simp only [List.length_set, rd, List.getD_eq_getElem?_getD, List.getElem?_set]
      clear hm e
      repeat' split
      all_goals first
        | (exfalso; omega)
        | rfl
        | (simp only [Option.getD_some]; congr 2; omega)
        | (congr 2; omega)
    · rw [if_neg hij]
      refine ⟨xs, rfl, rfl, fun m hmm => ?_⟩
      split
      · congr 1; omega
      · rfl
theorem rev_f (k : Nat) (xs : List Int) (h1 : (xs.length : Int) ≤ 2 * (k : Int) - 1) (hk : xs.length < 1099511627776) : slices_Reverse_byte_byte.f k xs = some xs.reverse := by
  unfold slices_Reverse_byte_byte.f
  rw [show wrap64 ((xs.length : Int) - 1) = (xs.length : Int) - 1 from by unfold wrap64; omega]
  by_cases h0 : xs.length = 0
  · have : xs = [] := by simpa using h0
    subst this
    obtain ⟨k, rfl⟩ : ∃ q, k = q + 1 := ⟨k - 1, by simp at h1; omega⟩
    rfl
  obtain ⟨ys, e, hl, hm⟩ := rev_l0 k xs 0 (xs.length - 1) (by omega) (by omega) (by omega) (by omega) (by omega)
  rw [e]
  congr 1
  apply List.ext_getElem
  · simp [hl]
  · intro m a b
    have := hm m (by omega)
    rw [if_pos (by omega)] at this
    rw [List.getD_eq_getElem?_getD, List.getD_eq_getElem?_getD, List.getElem?_eq_getElem (by omega), List.getElem?_eq_getElem (by omega)] at this
    simpa using this

theorem bt_hex (v : Nat) (h : v < 16) : bt (⟨#[48, 49, 50, 51, 52, 53, 54, 55, 56, 57, 97, 98, 99, 100, 101, 102]⟩ : ByteArray) (v : Int) = ((dg v).toNat : Int) := by
  have : ∀ v : Fin 16, bt (⟨#[48, 49, 50, 51, 52, 53, 54, 55, 56, 57, 97, 98, 99, 100, 101, 102]⟩ : ByteArray) (v.val : Int) = ((dg v.val).toNat : Int) := by decide
  exact this ⟨v, h⟩

def ints (l : List UInt8) : List Int := l.map fun c => (c.toNat : Int)
theorem ints_str (l : List UInt8) : strOfNums (ints l) = str l := by
  unfold strOfNums ints str
  congr 2
  rw [List.map_map]
  conv => rhs; rw [← List.map_id l]
  apply List.map_congr_left
  intro c _
  simp

theorem u64_w (q : Nat) (h : q < 18446744073709551616) : IntKind.u64.wrap (q : Int) = (q : Int) := by simp [IntKind.wrap, IntKind.signed, IntKind.bits]; omega

theorem lay_l0 (b : Nat) (hb : b = 10 ∨ b = 16) : ∀ (m k u : Nat) (acc : List UInt8), u < b ^ m → u < 18446744073709551616 → acc.length + m ≤ 128 → m + 200 ≤ k →
    num_lay.l0 k (u : Int) (b : Int) (ints acc) = some (str ((if u = 0 then [] else digs b u) ++ acc.reverse))
  | m, 0, u, acc, h1, h2, h3, h4 => by omega
  | m, k + 1, u, acc, h1, h2, h3, h4 => by
    rw [num_lay.l0]
    by_cases h0 : u = 0
    · subst h0
      rw [if_neg (by omega), if_pos rfl]
      rw [rev_f k _ (by simp [ints]; omega) (by simp [ints]; omega)]
      simp only [Option.bind_some, List.nil_append]
      rw [← ints_str]
      simp [ints]
    · rw [if_pos (by omega), if_neg (by omega)]
      have ht : Int.tmod (u : Int) (b : Int) = ((u % b : Nat) : Int) := (Int.ofNat_tmod _ _).symm
      have hd : Int.tdiv (u : Int) (b : Int) = ((u / b : Nat) : Int) := (Int.ofNat_tdiv _ _).symm
      have hlt : u % b < 16 := by rcases hb with rfl | rfl <;> omega
      have hdl : u / b < 18446744073709551616 := by rcases hb with rfl | rfl <;> omega
      rw [ht, hd, if_pos (by omega), if_pos (by omega), if_pos (by simp [ints]; omega)]
      rw [show IntKind.u64.wrap ((u / b : Nat) : Int) = ((u / b : Nat) : Int) from u64_w _ hdl]
      rw [bt_hex _ hlt]
      rw [show ints acc ++ [((dg (u % b)).toNat : Int)] = ints (acc ++ [dg (u % b)]) from by simp [ints]]
      obtain ⟨m, rfl⟩ : ∃ q, m = q + 1 := by
        cases m with
        | zero => simp at h1; omega
        | succ q => exact ⟨q, rfl⟩
      rw [lay_l0 b hb m k (u / b) (acc ++ [dg (u % b)]) (by rw [Nat.div_lt_iff_lt_mul (by omega)]; rw [Nat.pow_succ] at h1; exact h1) hdl (by simp; omega) (by omega)]
      rw [if_neg h0]
      by_cases hs : u < b
      · rw [if_pos (Nat.div_eq_of_lt hs), digs_small hs, Nat.mod_eq_of_lt hs]; simp
      · rw [if_neg (by have : 0 < u / b := Nat.div_pos (by omega) (by omega)
                       omega), digs_big (b := b) (u := u) (by omega) (by omega)]; simp

theorem lay_f (b : Nat) (hb : b = 10 ∨ b = 16) (k u : Nat) (h : u < 18446744073709551616) (hk : 300 ≤ k) : num_lay.f k (u : Int) (b : Int) = some (str (digs b u)) := by
  unfold num_lay.f
  have ht : Int.tmod (u : Int) (b : Int) = ((u % b : Nat) : Int) := (Int.ofNat_tmod _ _).symm
  have hd : Int.tdiv (u : Int) (b : Int) = ((u / b : Nat) : Int) := (Int.ofNat_tdiv _ _).symm
  have hlt : u % b < 16 := by rcases hb with rfl | rfl <;> omega
  have hdl : u / b < 18446744073709551616 := by rcases hb with rfl | rfl <;> omega
  rw [if_neg (by omega), ht, hd, if_pos (by omega), if_pos (by omega)]
  rw [show IntKind.u64.wrap ((u / b : Nat) : Int) = ((u / b : Nat) : Int) from u64_w _ hdl]
  rw [bt_hex _ hlt]
  rw [show [((dg (u % b)).toNat : Int)] = ints [dg (u % b)] from rfl]
  rw [lay_l0 b hb 64 k (u / b) [dg (u % b)] (by
    have h1 : u / b < 2 ^ 64 := by simpa using hdl
    exact Nat.lt_of_lt_of_le h1 (Nat.pow_le_pow_left (by omega) 64)) hdl (by simp) (by omega)]
  by_cases hs : u < b
  · rw [if_pos (Nat.div_eq_of_lt hs), digs_small hs, Nat.mod_eq_of_lt hs]; rfl
  · rw [if_neg (by have : 0 < u / b := Nat.div_pos (by omega) (by omega)
                   omega), digs_big (b := b) (u := u) (by omega) (by omega)]; simp

def i64 (n : Int) : Prop := -9223372036854775808 ≤ n ∧ n ≤ 9223372036854775807

theorem dec_f (k : Nat) (n : Int) (h : i64 n) (hk : 300 ≤ k) : num_Dec.f k n = some (str (decS n)) := by
  unfold num_Dec.f decS
  obtain ⟨h1, h2⟩ := h
  by_cases h0 : n < 0
  · rw [if_pos h0, if_pos h0]
    rw [show IntKind.u64.wrap (-(IntKind.u64.wrap n)) = (((-n).toNat : Nat) : Int) from by simp [IntKind.wrap, IntKind.signed, IntKind.bits]; omega]
    rw [show (10 : Int) = ((10 : Nat) : Int) from rfl, lay_f 10 (.inl rfl) k _ (by omega) hk]
    have hl : (digs 10 (-n).toNat).length ≤ 64 := digs_len (by omega) 63 _ (by omega)
    simp only [Option.bind_some, str_size]
    rw [if_pos (by omega), show (⟨#[45]⟩ : ByteArray) = str [45] from rfl, str_app]
    rfl
  · rw [if_neg h0, if_neg h0]
    rw [show IntKind.u64.wrap n = ((n.toNat : Nat) : Int) from by simp [IntKind.wrap, IntKind.signed, IntKind.bits]; omega]
    rw [show (10 : Int) = ((10 : Nat) : Int) from rfl, lay_f 10 (.inl rfl) k _ (by omega) hk]
    rfl
end Go.Proofs.YtjknkmidcmiefaaDoor.Digs
