/- Foundation for the two audit laws: events as plain data, how a slice of them lies in memory, and the two smallest contracts (Span, Many). -/
import Derived.Test.YtjknkmidcmiefaaProg
import Derived.WalkKit
import Derived.Deep.OwnRows
import Derived.Deep.QuietTactic
import Derived.BigQuiet
import Derived.Lib.Hide
import Derived.KernelRfl
namespace Go.Proofs.Ytjknkmidcmiefaa
open Go.RowKit

structure Ev where
  who : Int
  kind : Int
  a : Int
  b : Int

/-- A slice value that reads as a list of events (32 bytes, four cells each). -/
def EvsAt (w : World) (A : Option Addr) (l : List Ev) : Prop :=
  ∀ i, (h : i < l.length) → ∃ ad, A = some ad ∧ w.cell? (ad.add (i * 4)) = some (.int .i64 l[i].who) ∧
    w.cell? ⟨(ad.add (i * 4)).block, (ad.add (i * 4)).off + 1, none⟩ = some (.int .i64 l[i].kind) ∧
    w.cell? ⟨(ad.add (i * 4)).block, (ad.add (i * 4)).off + 2, none⟩ = some (.int .i64 l[i].a) ∧
    w.cell? ⟨(ad.add (i * 4)).block, (ad.add (i * 4)).off + 3, none⟩ = some (.int .i64 l[i].b)

theorem EvsAt.below {w w' : World} {A : Option Addr} {l : List Ev} (h : EvsAt w A l) (hb : Below w.heap.size w w') : EvsAt w' A l := fun i hi => by
  obtain ⟨ad, e, h0, h1, h2, h3⟩ := h i hi
  exact ⟨ad, e, (hb.cell (World.block_lt_of_cell? w _ h0)).trans h0, (hb.cell (World.block_lt_of_cell? w _ h1)).trans h1,
    (hb.cell (World.block_lt_of_cell? w _ h2)).trans h2, (hb.cell (World.block_lt_of_cell? w _ h3)).trans h3⟩

theorem ret_int {k : IntKind} {a b : Int} (h : a = b) : Ending.returned (.int k a) = .returned (.int k b) := by rw [h]

/-- how many events of a kind a thread has -/
def many (who kind : Int) : List Ev → Nat
  | [] => 0
  | e :: l => (if e.who = who ∧ e.kind = kind then 1 else 0) + many who kind l

theorem many_le (who kind : Int) (l : List Ev) : many who kind l ≤ l.length := by
  induction l with
  | nil => simp [many]
  | cons e l ih => simp only [many, List.length_cons]; split <;> omega

theorem many_snoc (who kind : Int) (l : List Ev) (e : Ev) : many who kind (l ++ [e]) = many who kind l + (if e.who = who ∧ e.kind = kind then 1 else 0) := by
  induction l with
  | nil => simp [many]
  | cons x l ih => simp only [List.cons_append, many, ih]; omega

theorem take_succ_ev (l : List Ev) (k : Nat) (h : k < l.length) : l.take (k + 1) = l.take k ++ [l[k]] := by
  rw [List.take_succ_eq_append_getElem h]

set_option maxHeartbeats 1000000 in
theorem many_calls (A : Option Addr) (c : Nat) (l : List Ev) (who kind : Int) (w : World) (hl : EvsAt w A l) (hn : l.length ≤ 100) :
    Calls Try.prog 10 #[.slice A l.length c, .int .i64 who, .int .i64 kind] w fun e w' => e = .returned (.int .i64 (many who kind l)) ∧ w = w' := by
  have HL := Lib.hid hl
  clear hl
  go_enter Try.func10, Try.ntmps10
  go_wp2
  go_loop [7, 8] (fun t i => ∃ k : Nat, k ≤ l.length ∧ i = .int .i64 k ∧ t = .int .i64 (many who kind (l.take k))) (fun _ i => l.length - (intOf i).toNat)
  case atStart => exact ⟨0, Nat.zero_le _, rfl, rfl⟩
  case round =>
    obtain ⟨k, hk, rfl, rfl⟩ := hrel
    have hm := many_le who kind (l.take k)
    have hm2 : (l.take k).length ≤ k := List.length_take_le _ _
    by_cases hlt : k < l.length
    · obtain ⟨ad, rfl, c0, c1, c2, c3⟩ := HL.out k hlt
      have HS : Hid (many who kind (l.take (k + 1)) = many who kind (l.take k) + (if l[k].who = who ∧ l[k].kind = kind then 1 else 0)) := by
        rw [take_succ_ev l k hlt]; exact many_snoc _ _ _ _
      by_cases h1 : l[k].who = who
      · have b1 : (l[k].who == who) = true := beq_iff_eq.2 h1
        by_cases h2 : l[k].kind = kind
        · have b2 : (l[k].kind == kind) = true := beq_iff_eq.2 h2
          have H1 := Lib.hid h1; have H2 := Lib.hid h2; clear h1 h2
          go_wp2
          go_round
          case rel => exact ⟨k + 1, by omega, by go_num, by rw [HS.out, if_pos ⟨H1.out, H2.out⟩]; go_num⟩
          case measure => simp [intOf]; omega
        · have b2 : (l[k].kind == kind) = false := beq_eq_false_iff_ne.2 h2
          have H2 := Lib.hid h2; have H1 := Lib.hid h1; clear h1 h2
          go_wp2
          go_round
          case rel => exact ⟨k + 1, by omega, by go_num, by rw [HS.out, if_neg (fun h => H2.out h.2)]; go_num⟩
          case measure => simp [intOf]; omega
      · have b1 : (l[k].who == who) = false := beq_eq_false_iff_ne.2 h1
        have H1 := Lib.hid h1; clear h1
        go_wp2
        go_round
        case rel => exact ⟨k + 1, by omega, by go_num, by rw [HS.out, if_neg (fun h => H1.out h.1)]; go_num⟩
        case measure => simp [intOf]; omega
    · go_wp2
      go_ret
      exact ⟨ret_int (by rw [List.take_of_length_le (by omega)]), rfl⟩

end Go.Proofs.Ytjknkmidcmiefaa
