/- The contract of audit.Span: where a frame was under way. -/
import Derived.Test.YtjknkmidcmiefaaEv
namespace Go.Proofs.Ytjknkmidcmiefaa
open Go.RowKit

/-- one event more: where the frame began, where it ended -/
def spStep (frame : Int) (e : Ev) (k : Nat) (p : Int × Int) : Int × Int :=
  if e.a = frame then
    (if e.kind = 1 ∧ p.1 < 0 then ((k : Int), p.2) else if e.kind = 4 ∧ 0 ≤ p.1 ∧ p.2 < 0 then (p.1, (k : Int)) else p)
  else p

def spAt (frame : Int) (l : List Ev) : Nat → Int × Int
  | 0 => (-1, -1)
  | k + 1 => match l[k]? with
    | some e => spStep frame e k (spAt frame l k)
    | none => spAt frame l k

theorem spAt_succ (frame : Int) (l : List Ev) (k : Nat) (h : k < l.length) : spAt frame l (k + 1) = spStep frame l[k] k (spAt frame l k) := by
  simp [spAt, h]

theorem spAt_bd (frame : Int) (l : List Ev) (k : Nat) : -1 ≤ (spAt frame l k).1 ∧ (spAt frame l k).1 ≤ k ∧ -1 ≤ (spAt frame l k).2 ∧ (spAt frame l k).2 ≤ k ∧ (0 ≤ (spAt frame l k).2 → 0 ≤ (spAt frame l k).1) := by
  induction k with
  | zero => simp [spAt]
  | succ k ih =>
    rw [spAt]
    split
    · unfold spStep
      repeat' split
      all_goals (try simp only [])
      all_goals omega
    · omega

theorem spAt_stays (frame : Int) (l : List Ev) (k m : Nat) (h : 0 ≤ (spAt frame l k).2) (hm : k ≤ m) : spAt frame l m = spAt frame l k := by
  induction m with
  | zero => obtain rfl : k = 0 := by omega
            rfl
  | succ m ih =>
    by_cases e : k = m + 1
    · rw [e]
    · have ih := ih (by omega)
      have hb := spAt_bd frame l k
      rw [spAt]
      split
      · rw [ih]; unfold spStep
        rw [if_neg (by omega : ¬ (_ ∧ (spAt frame l k).1 < 0)), if_neg (by omega : ¬ (_ ∧ 0 ≤ (spAt frame l k).1 ∧ (spAt frame l k).2 < 0))]
        simp
      · exact ih

section
variable {frame : Int} {e : Ev} {k : Nat} {p : Int × Int}
theorem sp_out (h : (e.a != frame) = true) : spStep frame e k p = p := by
  unfold spStep; rw [if_neg (by simpa using h)]
theorem sp_from (h : (e.a != frame) = false) (h1 : e.kind = 1) (h2 : p.1 < 0) : spStep frame e k p = ((k : Int), p.2) := by
  unfold spStep; rw [if_pos (by simpa using h), if_pos ⟨h1, h2⟩]
theorem sp_more (h : (e.a != frame) = false) (h1 : e.kind = 1) (h2 : 0 ≤ p.1) : spStep frame e k p = p := by
  unfold spStep; rw [if_pos (by simpa using h), if_neg (by omega), if_neg (by omega)]
theorem sp_early (h : (e.a != frame) = false) (_h1 : ¬ e.kind = 1) (h2 : p.1 < 0) : spStep frame e k p = p := by
  unfold spStep; rw [if_pos (by simpa using h), if_neg (by omega), if_neg (by omega)]
theorem sp_other (h : (e.a != frame) = false) (h1 : ¬ e.kind = 1) (h2 : ¬ e.kind = 4) : spStep frame e k p = p := by
  unfold spStep; rw [if_pos (by simpa using h), if_neg (by omega), if_neg (by omega)]
theorem sp_to (h : (e.a != frame) = false) (_h1 : ¬ e.kind = 1) (h2 : e.kind = 4) (h3 : 0 ≤ p.1) (h4 : p.2 < 0) : spStep frame e k p = (p.1, (k : Int)) := by
  unfold spStep; rw [if_pos (by simpa using h), if_neg (by omega), if_pos ⟨h2, h3, h4⟩]
end

def spRes (frame : Int) (l : List Ev) : Value :=
  if 0 ≤ (spAt frame l l.length).2 then .tuple #[.int .i64 (spAt frame l l.length).1, .int .i64 (spAt frame l l.length).2, .bool true] else .tuple #[.int .i64 0, .int .i64 0, .bool false]

set_option maxHeartbeats 1000000 in
theorem span_calls (A : Option Addr) (c : Nat) (l : List Ev) (frame : Int) (w : World) (hl : EvsAt w A l) (hn : l.length ≤ 100) :
    Calls Try.prog 9 #[.slice A l.length c, .int .i64 frame] w fun e w' => e = .returned (spRes frame l) ∧ Below w.heap.size w w' := by
  have HL := Lib.hid hl
  clear hl
  go_enter Try.func9, Try.ntmps9
  go_wp2
  go_loopw [7, 12] (fun t i wr => ∃ k : Nat, k ≤ l.length ∧ i = .int .i64 k ∧ t = .int .i64 (spAt frame l k).1 ∧ Hid ((spAt frame l k).2 < 0) ∧ Below w.heap.size w wr) (fun _ i _ => l.length - (intOf i).toNat)
  case atStart => exact ⟨0, Nat.zero_le _, rfl, rfl, by simp [Hid, spAt], Below.refl _ _⟩
  case round =>
    obtain ⟨k, hk, rfl, rfl, HT, HB⟩ := hrel
    have hbd := spAt_bd frame l k
    by_cases hlt : k < l.length
    · obtain ⟨ad, rfl, c0, c1, c2, c3⟩ := (HL.out.below HB) k hlt
      go_wp2
      all_goals have hs := spAt_succ frame l k hlt
      case _ =>
        rw [sp_out ‹_›] at hs
        go_roundw
        case rel => exact ⟨k + 1, by omega, by go_num, by rw [hs], by rw [hs]; exact HT, (HB.alloc HB.size _)⟩
        case measure => simp [intOf]; omega
      case _ =>
        rw [sp_from ‹_› ‹_› ‹_›] at hs
        go_roundw
        case rel => exact ⟨k + 1, by omega, by go_num, by rw [hs], by rw [hs]; exact HT, (HB.alloc HB.size _)⟩
        case measure => simp [intOf]; omega
      case _ =>
        rw [sp_more ‹_› ‹_› ‹_›] at hs
        go_roundw
        case rel => exact ⟨k + 1, by omega, by go_num, by rw [hs], by rw [hs]; exact HT, (HB.alloc HB.size _)⟩
        case measure => simp [intOf]; omega
      case _ =>
        rw [sp_to ‹_› ‹_› ‹_› ‹_› HT] at hs
        go_ret3
        have h9 := spAt_stays frame l (k + 1) l.length (by rw [hs]; simp) (by omega)
        have hr : spRes frame l = .tuple #[.int .i64 (spAt frame l k).1, .int .i64 k, .bool true] := by unfold spRes; rw [h9, hs, if_pos (by simp)]
        exact ⟨by rw [hr]; rfl, HB.alloc HB.size _⟩
      case _ =>
        rw [sp_early ‹_› ‹_› ‹_›] at hs
        go_roundw
        case rel => exact ⟨k + 1, by omega, by go_num, by rw [hs], by rw [hs]; exact HT, (HB.alloc HB.size _)⟩
        case measure => simp [intOf]; omega
      case _ =>
        rw [sp_other ‹_› ‹_› ‹_›] at hs
        go_roundw
        case rel => exact ⟨k + 1, by omega, by go_num, by rw [hs], by rw [hs]; exact HT, (HB.alloc HB.size _)⟩
        case measure => simp [intOf]; omega
    · go_wp2
      go_ret3
      obtain rfl : k = l.length := by omega
      have hr : spRes frame l = .tuple #[.int .i64 0, .int .i64 0, .bool false] := by unfold spRes; rw [if_neg (by have := HT.out; omega)]
      exact ⟨by rw [hr]; rfl, HB⟩

end Go.Proofs.Ytjknkmidcmiefaa
