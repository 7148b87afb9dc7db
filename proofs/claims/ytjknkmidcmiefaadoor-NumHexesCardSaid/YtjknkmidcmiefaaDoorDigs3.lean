import Derived.Test.YtjknkmidcmiefaaDoorDigs2
import Derived.Laws.StructEq
/-! Plain law of the digits: the reference's Undec, Unhex, Hex, Power. -/
namespace Go.Proofs.YtjknkmidcmiefaaDoor.Digs
open Go.RowKit Go.Proofs.YtjknkmidcmiefaaDoorW.PrintWords Go.Proofs.YtjknkmidcmiefaaDoor.PN
open Go Go.Lib

theorem str_beq (a b : List UInt8) : ((str a).toList == (str b).toList) = decide (a = b) := by
  rw [ByteArray.toList_eq, ByteArray.toList_eq]; simp only [str]
  by_cases h : a = b <;> simp [h]
theorem bt_str (p r : List UInt8) (c : UInt8) (i : Int) (hi : i = p.length) : bt (str (p ++ c :: r)) i = c.toNat := by
  subst hi
  unfold bt
  have h : (p.length : Int).toNat < (str (p ++ c :: r)).size := by rw [str_size]; simp
  rw [dif_pos h]
  have : (str (p ++ c :: r))[(p.length : Int).toNat] = c := by
    simp [str, ByteArray.getElem_eq_getElem_data]
  rw [this]

/-! ### Undec -/
def uloop : Nat → List UInt8 → Option Nat
  | acc, [] => some acc
  | acc, c :: r => if c.toNat < 48 then none else if c.toNat > 57 then none else uloop ((acc * 10 + (c.toNat - 48)) % 18446744073709551616) r
theorem uloop_app (l : List UInt8) (c : UInt8) : ∀ acc, uloop acc (l ++ [c]) = (uloop acc l).bind fun v => uloop v [c] := by
  induction l with
  | nil => intro acc; rfl
  | cons a r ih =>
    intro acc
    simp only [List.cons_append]
    rw [uloop, uloop]
    split
    · rfl
    · split
      · rfl
      · exact ih _
theorem uloop_digs (m : Nat) : ∀ u, u < 10 ^ (m + 1) → u < 18446744073709551616 → uloop 0 (digs 10 u) = some u := by
  have one : ∀ v d, d < 10 → v * 10 + d < 18446744073709551616 → uloop v [dg d] = some (v * 10 + d) := by
    intro v d hd hv
    have := dg_toNat d (by omega)
    rw [if_pos hd] at this
    simp only [uloop, this]
    rw [if_neg (by omega), if_neg (by omega)]
    congr 1; omega
  induction m with
  | zero => intro u h _; rw [digs_small (by simpa using h), one 0 u (by simpa using h) (by omega)]; simp
  | succ m ih =>
    intro u h h2
    by_cases h1 : u < 10
    · rw [digs_small h1, one 0 u h1 (by omega)]; simp
    · rw [digs_big (by omega) (by omega), uloop_app, ih (u / 10) (by rw [Nat.div_lt_iff_lt_mul (by omega)]; rw [Nat.pow_succ] at h; exact h) (by omega)]
      simp only [Option.bind_some]
      rw [one _ _ (by omega) (by omega)]
      congr 1; omega
def fin (x4 : Bool) (u : Nat) : Int := if x4 = true then wrap64 (-(wrap64 (u : Int))) else wrap64 (u : Int)
theorem wrap_i64 (n : Int) : i64 (wrap64 n) := by unfold wrap64 i64; omega
theorem fin_i64 (x4 : Bool) (u : Nat) : i64 (fin x4 u) := by unfold fin; split <;> exact wrap_i64 _
theorem rdec_k (k : Nat) (n : Int) (h : i64 n) (hk : 30 ≤ k) : temperaref03_Dec.f k n = some (str (decS n)) :=
  rdec_f 20 k n h (by unfold i64 at h; omega) (by omega) (by omega)

theorem ul (x4 : Bool) (l : List UInt8) (hl : l.length ≤ 20) : ∀ (r p : List UInt8) (acc k : Nat) (i : Int), l = p ++ r → i = p.length → (p ≠ [] ∨ x4 = false) → acc < 18446744073709551616 → 2 * r.length + 100 ≤ k →
    temperaref03_Undec.l0 k (str l) x4 (acc : Int) i = match uloop acc r with | none => some (0, false) | some u => some (fin x4 u, decide (decS (fin x4 u) = l)) := by
  intro r
  induction r with
  | nil =>
    intro p acc k i e hi hp ha hk
    obtain ⟨k, rfl⟩ : ∃ q, k = q + 1 := ⟨k - 1, by omega⟩
    have hpl : p.length ≤ 20 := by rw [e] at hl; simpa using hl
    rw [temperaref03_Undec.l0, str_size, if_neg (by rw [hi, e]; simp)]
    simp only [uloop, fin]
    split
    · rw [rdec_k k _ (wrap_i64 _) (by simp at hk; omega)]
      simp only [Option.bind_some, str_beq]
    · rw [rdec_k k _ (wrap_i64 _) (by simp at hk; omega)]
      simp only [Option.bind_some, str_beq]
  | cons c r ih =>
    intro p acc k i e hi hp ha hk
    have hpl : p.length + (r.length + 1) ≤ 20 := by rw [e] at hl; simpa using hl
    obtain ⟨k, rfl⟩ : ∃ q, k = q + 2 := ⟨k - 2, by simp at hk; omega⟩
    rw [temperaref03_Undec.l0, str_size, if_pos (by rw [hi, e]; simp; omega)]
    have hb : bt (str l) i = c.toNat := by rw [e]; exact bt_str p r c i hi
    have hc := c.toNat_lt
    have hj : ∀ z : Bool, z = false → temperaref03_Undec.j2 (k + 1) (str l) x4 (acc : Int) i z = match uloop acc (c :: r) with | none => some (0, false) | some u => some (fin x4 u, decide (decS (fin x4 u) = l)) := by
      intro z hz
      subst hz
      rw [temperaref03_Undec.j2, if_neg (by simp), if_pos (by omega), str_size, if_pos (by rw [hi, e]; simp; omega), hb, uloop]
      by_cases c1 : c.toNat < 48
      · rw [if_pos (by omega), if_pos c1]
      · rw [if_neg (by omega), if_neg c1]
        by_cases c2 : c.toNat > 57
        · rw [if_pos (by omega), if_pos c2]
        · rw [if_neg (by omega), if_neg c2]
          have ew : IntKind.u64.wrap ((IntKind.u64.wrap ((IntKind.u64.wrap ((acc : Int) * 10)) + (IntKind.u64.wrap (c.toNat : Int)))) - 48) = (((acc * 10 + (c.toNat - 48)) % 18446744073709551616 : Nat) : Int) := by
            simp only [IntKind.wrap, IntKind.signed, IntKind.bits]; simp; omega
          rw [ew]
          exact ih (p ++ [c]) _ k _ (by rw [e]; simp) (by rw [hi]; unfold wrap64; simp; omega) (.inl (by simp)) (by omega) (by simp at hk; omega)
    split
    · rename_i h0
      have : p = [] := by
        rw [hi] at h0
        exact List.length_eq_zero_iff.1 (by omega)
      rcases hp with hp | hp
      · exact absurd this hp
      · exact hj x4 hp
    · exact hj false rfl

theorem decS_len (n : Int) (h : i64 n) : 1 ≤ (decS n).length ∧ (decS n).length ≤ 20 := by
  obtain ⟨h1, h2⟩ := h
  unfold decS
  split
  · have := digs_len (b := 10) (by omega) 18 (-n).toNat (by omega)
    simp; omega
  · have := digs_len (b := 10) (by omega) 18 n.toNat (by omega)
    have h3 := List.length_pos_iff.2 (digs_ne 10 n.toNat)
    omega

theorem rundec (k : Nat) (l : List UInt8) (hk : 300 ≤ k) : ∃ y b, temperaref03_Undec.f k (str l) = some (y, b) ∧ (b = true → undecS l = some y) ∧ (b = false → undecS l = none) := by
  by_cases hlen : l.length = 0 ∨ l.length > 20
  · refine ⟨0, false, ?_, by simp, fun _ => ?_⟩
    · obtain ⟨k, rfl⟩ : ∃ q, k = q + 1 := ⟨k - 1, by omega⟩
      unfold temperaref03_Undec.f
      rw [str_size]
      split
      · rw [temperaref03_Undec.j0, if_pos rfl]
      · rw [temperaref03_Undec.j0, if_pos (by simp; omega)]
    · cases hu : undecS l with
      | none => rfl
      | some v =>
        obtain ⟨a, b⟩ := undecS_some hu
        have := decS_len v a
        rw [b] at this
        omega
  · obtain ⟨c, r, rfl⟩ : ∃ c r, l = c :: r := by
      cases l with
      | nil => simp at hlen
      | cons c r => exact ⟨c, r, rfl⟩
    have hl20 : (c :: r).length ≤ 20 := by omega
    have hs : r.length + 1 ≤ 20 := by simpa using hl20
    have hb0 : bt (str (c :: r)) 0 = c.toNat := bt_str [] r c 0 rfl
    obtain ⟨k, rfl⟩ : ∃ q, k = q + 3 := ⟨k - 3, by omega⟩
    have hf : temperaref03_Undec.f (k + 3) (str (c :: r)) = (match uloop 0 (if c.toNat = 45 then r else c :: r) with | none => some (0, false) | some u => some (fin (decide (c.toNat = 45)) u, decide (decS (fin (decide (c.toNat = 45)) u) = c :: r))) := by
      unfold temperaref03_Undec.f
      rw [str_size, if_neg (by simp; omega), temperaref03_Undec.j0, if_neg (by simp; omega), str_size, if_pos (by first | (simp; done) | (simp; omega)), hb0]
      by_cases h45 : c.toNat = 45
      · rw [if_pos h45, show ((c.toNat : Int) == 45) = true from by simp; omega, show decide (c.toNat = 45) = true from by simp [h45]]
        rw [temperaref03_Undec.l0, str_size, if_pos (by first | (simp; done) | (simp; omega)), if_pos rfl, temperaref03_Undec.j2, if_pos rfl]
        exact ul true (c :: r) hl20 r [c] 0 k _ rfl (by simp [wrap64]) (.inl (by simp)) (by omega) (by omega)
      · rw [if_neg h45, show ((c.toNat : Int) == 45) = false from by simp; omega, show decide (c.toNat = 45) = false from by simp [h45]]
        exact ul false (c :: r) hl20 (c :: r) [] 0 (k + 2) 0 rfl rfl (.inr rfl) (by omega) (by simp; omega)
    rw [hf]
    have hdec : ∀ v, undecS (c :: r) = some v → uloop 0 (if c.toNat = 45 then r else c :: r) = some (if v < 0 then (-v).toNat else v.toNat) ∧ fin (decide (c.toNat = 45)) (if v < 0 then (-v).toNat else v.toNat) = v ∧ decS v = c :: r := by
      intro v hv
      obtain ⟨hi, e⟩ := undecS_some hv
      refine ⟨?_, ?_, e⟩ <;> unfold i64 at hi
      · unfold decS at e
        split at e
        · rename_i h0
          injection e with e1 e2
          subst e1
          subst e2
          rw [if_pos (by decide), if_pos h0]
          exact uloop_digs 25 _ (by omega) (by omega)
        · rename_i h0
          obtain ⟨c', r', e', h3, h4⟩ := digs_head 25 v.toNat (by omega)
          rw [e'] at e
          injection e with e1 e2
          rw [← e1, ← e2, if_neg (by omega), if_neg h0, ← e']
          exact uloop_digs 25 _ (by omega) (by omega)
      · unfold decS at e
        split at e
        · rename_i h0
          injection e with e1 e2
          subst e1
          simp only [fin, h0]
          rw [if_pos (by decide)]
          unfold wrap64; simp; omega
        · rename_i h0
          obtain ⟨c', r', e', h3, h4⟩ := digs_head 25 v.toNat (by omega)
          rw [e'] at e
          injection e with e1 e2
          rw [← e1]
          simp only [fin, h0]
          rw [if_neg (by simp; omega)]
          unfold wrap64; simp; omega
    cases hu : uloop 0 (if c.toNat = 45 then r else c :: r) with
    | none =>
      refine ⟨0, false, rfl, by simp, fun _ => ?_⟩
      cases hv : undecS (c :: r) with
      | none => rfl
      | some v => have := (hdec v hv).1; rw [hu] at this; cases this
    | some u =>
      refine ⟨_, _, rfl, fun h => ?_, fun h => ?_⟩
      · have h := of_decide_eq_true h
        have := undecS_dec _ (fin_i64 (decide (c.toNat = 45)) u)
        rw [h] at this; exact this
      · cases hv : undecS (c :: r) with
        | none => rfl
        | some v =>
          obtain ⟨a, b, e⟩ := hdec v hv
          rw [hu] at a
          injection a with a
          rw [a, b] at h
          simp [e] at h
end Go.Proofs.YtjknkmidcmiefaaDoor.Digs
