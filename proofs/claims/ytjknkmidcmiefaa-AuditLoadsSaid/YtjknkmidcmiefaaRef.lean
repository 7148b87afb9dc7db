/- The contracts of the reference's over, last, open, has. -/
import Derived.Test.YtjknkmidcmiefaaBook2
namespace Go.Proofs.Ytjknkmidcmiefaa
open Go.RowKit

def overOf (who : Int) : List Ev → Bool
  | [] => false
  | e :: l => (e.kind == 5 && e.who == who) || overOf who l
def hasOf (x : Ev) : List Ev → Bool
  | [] => false
  | e :: l => (e.kind == x.kind && e.a == x.a && e.b == x.b) || hasOf x l
def lastStep (n : Int) (e : Ev) : Int := if e.kind = 1 then e.a else n
def lastOf (l : List Ev) : Int := l.foldl lastStep (-1)
def openStep (o : Bool) (e : Ev) : Bool := if e.kind = 4 then false else if e.kind = 1 then true else o
def openOf (l : List Ev) : Bool := l.foldl openStep false

theorem overOf_snoc (who : Int) (l : List Ev) (e : Ev) : overOf who (l ++ [e]) = (overOf who l || (e.kind == 5 && e.who == who)) := by
  induction l with
  | nil => simp [overOf]
  | cons x l ih => simp only [List.cons_append, overOf, ih, Bool.or_assoc]
theorem hasOf_snoc (x : Ev) (l : List Ev) (e : Ev) : hasOf x (l ++ [e]) = (hasOf x l || (e.kind == x.kind && e.a == x.a && e.b == x.b)) := by
  induction l with
  | nil => simp [hasOf]
  | cons y l ih => simp only [List.cons_append, hasOf, ih, Bool.or_assoc]
theorem lastOf_snoc (l : List Ev) (e : Ev) : lastOf (l ++ [e]) = lastStep (lastOf l) e := by simp [lastOf]
theorem openOf_snoc (l : List Ev) (e : Ev) : openOf (l ++ [e]) = openStep (openOf l) e := by simp [openOf]

theorem overOf_mem (who : Int) (l : List Ev) (k : Nat) (h : k < l.length) (h1 : (l[k].kind == 5) = true) (h2 : (l[k].who == who) = true) : overOf who l = true := by
  induction l generalizing k with
  | nil => simp at h
  | cons x l ih =>
    cases k with
    | zero => simp at h1 h2; simp [overOf, h1, h2]
    | succ k => simp only [List.getElem_cons_succ] at h1 h2; simp [overOf, ih k (by simpa using h) h1 h2]
theorem hasOf_mem (x : Ev) (l : List Ev) (k : Nat) (h : k < l.length) (h1 : (l[k].kind == x.kind) = true) (h2 : (l[k].a == x.a) = true) (h3 : (l[k].b == x.b) = true) : hasOf x l = true := by
  induction l generalizing k with
  | nil => simp at h
  | cons y l ih =>
    cases k with
    | zero => simp at h1 h2 h3; simp [hasOf, h1, h2, h3]
    | succ k => simp only [List.getElem_cons_succ] at h1 h2 h3; simp [hasOf, ih k (by simpa using h) h1 h2 h3]

set_option maxHeartbeats 1000000 in
theorem over_calls (A : Option Addr) (c n : Nat) (l : List Ev) (who : Int) (w : World) (hl : EvsAt w A l) (hn : l.length = n) (hn1 : n ≤ 100) :
    Calls Try.prog 16 #[.slice A n c, .int .i64 who] w fun e w' => e = .returned (.bool (overOf who l)) ∧ w = w' := by
  have HL := Lib.hid hl
  have HN := Lib.hid hn
  clear hl hn
  go_enter Try.func16, Try.ntmps16
  go_wp2
  go_loop [5] (fun i => ∃ k : Nat, k ≤ n ∧ i = .int .i64 k ∧ Hid (overOf who (l.take k) = false)) (fun i => n - (intOf i).toNat)
  case atStart => exact ⟨0, Nat.zero_le _, rfl, rfl⟩
  case round =>
    obtain ⟨k, hk, rfl, HO⟩ := hrel
    by_cases hlt : k < n
    · have hlt' : k < l.length := by rw [HN.out]; exact hlt
      obtain ⟨ad, rfl, c0, c1, c2, c3⟩ := HL.out k hlt'
      have HS : Hid (overOf who (l.take (k + 1)) = (overOf who (l.take k) || (l[k].kind == 5 && l[k].who == who))) := by
        rw [take_succ_ev l k hlt']; exact overOf_snoc _ _ _
      have HM := Lib.hid (overOf_mem who l k hlt')
      cases h1 : (l[k].kind == 5) with
      | true =>
        cases h2 : (l[k].who == who) with
        | true =>
          have HR := Lib.hid (HM.out h1 h2)
          go_wp2
          go_ret
          exact ⟨by rw [HR.out]; rfl, rfl⟩
        | false =>
          have HS2 : Hid (overOf who (l.take (k + 1)) = false) := by rw [HS.out, HO.out, h1, h2]; rfl
          go_wp2
          go_round
          case rel => exact ⟨k + 1, by omega, by go_num, HS2⟩
          case measure => simp [intOf]; omega
      | false =>
        have HS2 : Hid (overOf who (l.take (k + 1)) = false) := by rw [HS.out, HO.out, h1]; rfl
        go_wp2
        go_round
        case rel => exact ⟨k + 1, by omega, by go_num, HS2⟩
        case measure => simp [intOf]; omega
    · go_wp2
      go_ret
      have := HO.out
      rw [List.take_of_length_le (by rw [HN.out]; omega)] at this
      exact ⟨by rw [this]; rfl, rfl⟩

set_option maxHeartbeats 1000000 in
theorem last_calls (A : Option Addr) (c n : Nat) (l : List Ev) (w : World) (hl : EvsAt w A l) (hn : l.length = n) (hn1 : n ≤ 100) :
    Calls Try.prog 17 #[.slice A n c] w fun e w' => e = .returned (.int .i64 (lastOf l)) ∧ w = w' := by
  have HL := Lib.hid hl
  have HN := Lib.hid hn
  clear hl hn
  go_enter Try.func17, Try.ntmps17
  go_wp2
  go_loop [3, 4] (fun v i => ∃ k : Nat, k ≤ n ∧ i = .int .i64 k ∧ v = .int .i64 (lastOf (l.take k))) (fun _ i => n - (intOf i).toNat)
  case atStart => exact ⟨0, Nat.zero_le _, rfl, rfl⟩
  case round =>
    obtain ⟨k, hk, rfl, rfl⟩ := hrel
    by_cases hlt : k < n
    · have hlt' : k < l.length := by rw [HN.out]; exact hlt
      obtain ⟨ad, rfl, c0, c1, c2, c3⟩ := HL.out k hlt'
      have HS : Hid (lastOf (l.take (k + 1)) = lastStep (lastOf (l.take k)) l[k]) := by
        rw [take_succ_ev l k hlt']; exact lastOf_snoc _ _
      cases h1 : (l[k].kind == 1) with
      | true =>
        have HS2 : Hid (lastOf (l.take (k + 1)) = l[k].a) := by rw [HS.out]; unfold lastStep; rw [if_pos (beq_iff_eq.1 h1)]; rfl
        go_wp2
        go_round
        case rel => exact ⟨k + 1, by omega, by go_num, by rw [HS2.out]⟩
        case measure => simp [intOf]; omega
      | false =>
        have HS2 : Hid (lastOf (l.take (k + 1)) = lastOf (l.take k)) := by rw [HS.out]; unfold lastStep; rw [if_neg (beq_eq_false_iff_ne.1 h1)]; rfl
        go_wp2
        go_round
        case rel => exact ⟨k + 1, by omega, by go_num, by rw [HS2.out]⟩
        case measure => simp [intOf]; omega
    · go_wp2
      go_ret
      exact ⟨ret_int (by rw [List.take_of_length_le (by rw [HN.out]; omega)]), rfl⟩

set_option maxHeartbeats 1000000 in
theorem open_calls (A : Option Addr) (c n : Nat) (l : List Ev) (w : World) (hl : EvsAt w A l) (hn : l.length = n) (hn1 : n ≤ 100) :
    Calls Try.prog 18 #[.slice A n c] w fun e w' => e = .returned (.bool (openOf l)) ∧ w = w' := by
  have HL := Lib.hid hl
  have HN := Lib.hid hn
  clear hl hn
  go_enter Try.func18, Try.ntmps18
  go_wp2
  go_loop [3, 4] (fun v i => ∃ k : Nat, k ≤ n ∧ i = .int .i64 k ∧ v = .bool (openOf (l.take k))) (fun _ i => n - (intOf i).toNat)
  case atStart => exact ⟨0, Nat.zero_le _, rfl, rfl⟩
  case round =>
    obtain ⟨k, hk, rfl, rfl⟩ := hrel
    by_cases hlt : k < n
    · have hlt' : k < l.length := by rw [HN.out]; exact hlt
      obtain ⟨ad, rfl, c0, c1, c2, c3⟩ := HL.out k hlt'
      have HS : Hid (openOf (l.take (k + 1)) = openStep (openOf (l.take k)) l[k]) := by
        rw [take_succ_ev l k hlt']; exact openOf_snoc _ _
      by_cases h1 : l[k].kind = 1
      · have b1 : (l[k].kind == 1) = true := beq_iff_eq.2 h1
        have b2 : (l[k].kind == 4) = false := beq_eq_false_iff_ne.2 (by omega)
        have HS2 : Hid (openOf (l.take (k + 1)) = true) := by rw [HS.out]; unfold openStep; rw [if_neg (by omega), if_pos h1]; rfl
        have H1 := Lib.hid h1
        clear h1
        go_wp2
        go_round
        case rel => exact ⟨k + 1, by omega, by go_num, by rw [HS2.out]⟩
        case measure => simp [intOf]; omega
      · have b1 : (l[k].kind == 1) = false := beq_eq_false_iff_ne.2 h1
        by_cases h2 : l[k].kind = 4
        · have b2 : (l[k].kind == 4) = true := beq_iff_eq.2 h2
          have HS2 : Hid (openOf (l.take (k + 1)) = false) := by rw [HS.out]; unfold openStep; rw [if_pos h2]; rfl
          have H1 := Lib.hid h2
          clear h1 h2
          go_wp2
          go_round
          case rel => exact ⟨k + 1, by omega, by go_num, by rw [HS2.out]⟩
          case measure => simp [intOf]; omega
        · have b2 : (l[k].kind == 4) = false := beq_eq_false_iff_ne.2 h2
          have HS2 : Hid (openOf (l.take (k + 1)) = openOf (l.take k)) := by rw [HS.out]; unfold openStep; rw [if_neg h2, if_neg h1]; rfl
          clear h1 h2
          go_wp2
          go_round
          case rel => exact ⟨k + 1, by omega, by go_num, by rw [HS2.out]⟩
          case measure => simp [intOf]; omega
    · go_wp2
      go_ret
      exact ⟨by rw [List.take_of_length_le (by rw [HN.out]; omega)]; rfl, rfl⟩

set_option maxHeartbeats 2000000 in
theorem has_calls (A : Option Addr) (c n : Nat) (l : List Ev) (x : Ev) (w : World) (hl : EvsAt w A l) (hn : l.length = n) (hn1 : n ≤ 100) :
    Calls Try.prog 19 #[.slice A n c, evAgg x] w fun e w' => e = .returned (.bool (hasOf x l)) ∧ Below w.heap.size w w' := by
  have HL := Lib.hid hl
  have HN := Lib.hid hn
  clear hl hn
  unfold evAgg
  go_enter Try.func19, Try.ntmps19
  go_wp2
  go_loopw [5] (fun i wr => ∃ (k m : Nat), k ≤ n ∧ i = .int .i64 k ∧ Hid (hasOf x (l.take k) = false) ∧ wr = (w.alloc (.cells #[.int .i64 x.who, .int .i64 x.kind, .int .i64 x.a, .int .i64 x.b] 36)).drewN m) (fun i _ => n - (intOf i).toNat)
  case atStart => exact ⟨0, 0, Nat.zero_le _, rfl, rfl, rfl⟩
  case round =>
    obtain ⟨k, m, hk, rfl, HO, rfl⟩ := hrel
    by_cases hlt : k < n
    · have hlt' : k < l.length := by rw [HN.out]; exact hlt
      obtain ⟨ad, rfl, c0, c1, c2, c3⟩ := HL.out k hlt'
      have l0 := World.block_lt_of_cell? w _ c0
      have l1 := World.block_lt_of_cell? w _ c1
      have HS : Hid (hasOf x (l.take (k + 1)) = (hasOf x (l.take k) || (l[k].kind == x.kind && l[k].a == x.a && l[k].b == x.b))) := by
        rw [take_succ_ev l k hlt']; exact hasOf_snoc _ _ _
      have HM := Lib.hid (hasOf_mem x l k hlt')
      have i0 : (0 : Int) ≤ (k : Int) := by omega
      have i1 : (k : Int) < (n : Int) := by omega
      cases h1 : (l[k].kind == x.kind) with
      | true =>
        cases h2 : (l[k].a == x.a) with
        | true =>
          cases h3 : (l[k].b == x.b) with
          | true =>
            have HR := Lib.hid (HM.out h1 h2 h3)
            go_wp2
            go_quiet (fail)
            go_wp2
            go_ret
            exact ⟨by rw [HR.out]; rfl, by repeat (first | exact (Below.refl _ _).alloc (Nat.le_refl _) _ | apply below_drewN)⟩
          | false =>
            have HS2 : Hid (hasOf x (l.take (k + 1)) = false) := by rw [HS.out, HO.out, h1, h2, h3]; rfl
            go_wp2
            go_quiet (fail)
            go_wp2
            go_roundw
            case rel => exact ⟨k + 1, _, by omega, by go_num, HS2, rfl⟩
            case measure => simp [intOf]; omega
        | false =>
          have HS2 : Hid (hasOf x (l.take (k + 1)) = false) := by rw [HS.out, HO.out, h1, h2]; rfl
          go_wp2
          go_quiet (fail)
          go_wp2
          go_roundw
          case rel => exact ⟨k + 1, _, by omega, by go_num, HS2, rfl⟩
          case measure => simp [intOf]; omega
      | false =>
        have HS2 : Hid (hasOf x (l.take (k + 1)) = false) := by rw [HS.out, HO.out, h1]; rfl
        go_wp2
        go_quiet (fail)
        go_wp2
        go_roundw
        case rel => exact ⟨k + 1, _, by omega, by go_num, HS2, rfl⟩
        case measure => simp [intOf]; omega
    · go_wp2
      go_ret
      have := HO.out
      rw [List.take_of_length_le (by rw [HN.out]; omega)] at this
      exact ⟨by rw [this]; rfl, by repeat (first | exact (Below.refl _ _).alloc (Nat.le_refl _) _ | apply below_drewN)⟩

end Go.Proofs.Ytjknkmidcmiefaa
