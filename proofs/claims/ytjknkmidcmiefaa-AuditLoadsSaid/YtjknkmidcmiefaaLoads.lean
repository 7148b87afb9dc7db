/- The contract of audit.Loads: each worker's load, counted. -/
import Derived.Test.YtjknkmidcmiefaaEv
namespace Go.Proofs.Ytjknkmidcmiefaa
open Go.RowKit

theorem info38 : (Try.prog.info? 38).map (fun i => (i.zero, i.size, i.bytes)) = some (some (.agg #[.int .i64 0, .int .i64 0, .int .i64 0]), 3, 24) := by kernel_rfl

def loadCell (l : List Ev) (j : Nat) : Value := .int .i64 (many ((j / 3 : Nat) + 1) ((j % 3 : Nat) + 1) l)

theorem loads_bad (A : Option Addr) (c : Nat) (l : List Ev) (workers : Int) (w : World) (hb : workers < 1 ∨ 64 < workers) :
    Calls Try.prog 8 #[.slice A l.length c, .int .i64 workers] w fun e w' => e = .returned (.tuple #[.slice none 0 0, .int .i64 2]) ∧ w = w' := by
  rcases hb with hb | hb
  · go_enter Try.func8, Try.ntmps8
    go_wp2
    go_ret2
    exact ⟨rfl, rfl⟩
  · have h' : ¬ workers < 1 := by omega
    go_enter Try.func8, Try.ntmps8
    go_wp2
    go_ret2
    exact ⟨rfl, rfl⟩

/-- one event more: the cell of its worker and kind counts it -/
theorem load_snoc (l : List Ev) (e : Ev) (j m q : Nat) (hw : e.who = (m : Int) + 1) (hk : e.kind = (q : Int) + 1) (hq : q < 3) :
    loadCell (l ++ [e]) j = if j = m * 3 + q then .int .i64 ((many ((m : Int) + 1) ((q : Int) + 1) l : Int) + 1) else loadCell l j := by
  unfold loadCell
  rw [many_snoc, hw, hk]
  by_cases h : j = m * 3 + q
  · have h1 : j / 3 = m := by omega
    have h2 : j % 3 = q := by omega
    rw [if_pos h, if_pos (by rw [h1, h2]; exact ⟨rfl, rfl⟩), h1, h2]
    simp
  · rw [if_neg h, if_neg (by omega)]
    simp

/-- an event that no load counts -/
theorem load_other (l : List Ev) (e : Ev) (n : Nat) (h : e.who < 1 ∨ (n : Int) < e.who ∨ e.kind < 1 ∨ 3 < e.kind) (j : Nat) (hj : j < n * 3) :
    loadCell (l ++ [e]) j = loadCell l j := by
  unfold loadCell
  rw [many_snoc, if_neg (by omega)]
  simp

theorem load_row {wr : World} {g N : Nat} {l : List Ev} (h : wr.rowIs g 38 N (loadCell l)) (e : Ev) (m q a : Nat) (ha : a = m * 3 + q) (hw : e.who = (m : Int) + 1) (hk : e.kind = (q : Int) + 1) (hq : q < 3) (v : Value)
    (hv : v = .int .i64 ((many ((m : Int) + 1) ((q : Int) + 1) l : Int) + 1)) : (wr.setCell ⟨g, a, none⟩ v).rowIs g 38 N (loadCell (l ++ [e])) :=
  (h.set a v).congr fun j _ => by
    rw [load_snoc l e j m q hw hk hq, hv, ha]

theorem load_row_same {wr : World} {g n : Nat} {l : List Ev} (h : wr.rowIs g 38 (n * 3) (loadCell l)) (e : Ev) (he : e.who < 1 ∨ (n : Int) < e.who ∨ e.kind < 1 ∨ 3 < e.kind) : wr.rowIs g 38 (n * 3) (loadCell (l ++ [e])) :=
  h.congr fun j hj => (load_other l e n he j hj).symm

theorem loads_made (w : World) (n : Nat) : (w.alloc (.cells (madeCells #[.int .i64 0, .int .i64 0, .int .i64 0] (n * 3)) 38)).rowIs w.heap.size 38 (n * 3) (loadCell []) := by
  have h := World.rowIs_alloc w (madeCells #[.int .i64 0, .int .i64 0, .int .i64 0] (n * 3)) 38 (loadCell []) (fun i hi => by
    rw [size_madeCells] at hi
    have h3 : i % 3 < 3 := Nat.mod_lt _ (by omega)
    simp only [madeCells, loadCell, many]
    rw [Array.getElem?_map, Array.getElem?_range, if_pos hi]
    simp only [Option.map_some]
    match h : i % 3, h3 with
    | 0, _ => simp
    | 1, _ => simp
    | 2, _ => simp)
  rw [size_madeCells] at h
  exact h

set_option maxHeartbeats 2000000 in
theorem loads_good (A : Option Addr) (c : Nat) (l : List Ev) (n : Nat) (w : World) (hl : EvsAt w A l) (hn : l.length ≤ 100) (h1 : 1 ≤ n) (h2 : n ≤ 64) :
    Calls Try.prog 8 #[.slice A l.length c, .int .i64 n] w fun e w' => e = .returned (.tuple #[.slice (some ⟨w.heap.size, 0, none⟩) n n, .int .i64 0]) ∧
      w'.rowIs w.heap.size 38 (n * 3) (loadCell l) ∧ Below w.heap.size w w' := by
  have HL := Lib.hid hl
  clear hl
  obtain ⟨i0, hi, hz0, hz1, hz2⟩ := info_parts info38
  have hmk := fun W => run_make (P := Try.prog) W 30 38 i0 _ Try.underlying30 hi hz0 .i64 .i64 (n : Int) (n : Int) (by omega) (Int.le_refl _) (by rw [hz2]; omega) (by omega)
  rw [hz1] at hmk
  simp only [Int.toNat_natCast, Value.cells] at hmk
  clear hi hz0 hz1 hz2
  go_enter Try.func8, Try.ntmps8
  go_wp2
  have HR0 := Lib.hid (loads_made w n)
  go_loopw [20] (fun i wr => ∃ k : Nat, k ≤ l.length ∧ i = .int .i64 k ∧ Hid (wr.rowIs w.heap.size 38 (n * 3) (loadCell (l.take k))) ∧ w.heap.size < wr.heap.size ∧ Below w.heap.size w wr) (fun i _ => l.length - (intOf i).toNat)
  case atStart => exact ⟨0, Nat.zero_le _, rfl, HR0, by simp, (Below.refl _ _).alloc (Nat.le_refl _) _⟩
  case round =>
    obtain ⟨k, hk, rfl, HR, hg, HB⟩ := hrel
    clear HR0
    by_cases hlt : k < l.length
    · obtain ⟨ad, rfl, c0, c1, c2, c3⟩ := (HL.out.below HB) k hlt
      have HT : Hid (l.take (k + 1) = l.take k ++ [l[k]]) := take_succ_ev l k hlt
      obtain ⟨E, hE⟩ : ∃ E, E = l[k] := ⟨_, rfl⟩
      rw [← hE] at c0 c1 c2 c3 HT
      clear hE
      have hm := fun a b => many_le a b (l.take k)
      have hm2 : (l.take k).length ≤ k := List.length_take_le _ _
      by_cases hin : 1 ≤ E.who ∧ E.who ≤ (n : Int)
      · obtain ⟨m, hm'⟩ : ∃ m : Nat, E.who = (m : Int) + 1 := ⟨(E.who - 1).toNat, by omega⟩
        have hmn : (m : Int) + 1 ≤ n := by omega
        have hmn' : m < n := by omega
        rw [hm'] at c0
        have f0 := HR.out.cell (i := m * 3) (by omega)
        have f1 := HR.out.cell (i := m * 3 + 1) (by omega)
        have f2 := HR.out.cell (i := m * 3 + 2) (by omega)
        have z0 := HR.out.frozen (m * 3)
        have z1 := HR.out.frozen (m * 3 + 1)
        have z2 := HR.out.frozen (m * 3 + 2)
        simp only [loadCell, show m * 3 / 3 = m by omega, show m * 3 % 3 = 0 by omega, show (m * 3 + 1) / 3 = m by omega, show (m * 3 + 1) % 3 = 1 by omega, show (m * 3 + 2) / 3 = m by omega, show (m * 3 + 2) % 3 = 2 by omega] at f0 f1 f2
        have g0 := hm ((m : Int) + 1) 1
        have g1 := hm ((m : Int) + 1) 2
        have g2 := hm ((m : Int) + 1) 3
        clear hm
        have HW := Lib.hid hm'
        clear hm' hin
        go_wp2
        case _ =>
          have hk0 : (E.kind == 1) = true := by assumption
          have hk1 : E.kind = ((0 : Nat) : Int) + 1 := by have := beq_iff_eq.1 hk0; omega
          go_roundw
          case rel => exact ⟨k + 1, by omega, by go_num, by rw [HT.out]; exact (load_row HR.out E m 0 _ rfl HW.out hk1 (by omega) _ (by simp)).alloc _, by simp; omega, (HB.setCell (by simp) _).alloc (by simpa using HB.size) _⟩
          case measure => simp [intOf]; omega
        case _ =>
          have hk0 : (E.kind == 2) = true := by assumption
          have hk1 : E.kind = ((1 : Nat) : Int) + 1 := by have := beq_iff_eq.1 hk0; omega
          go_roundw
          case rel => exact ⟨k + 1, by omega, by go_num, by rw [HT.out]; exact (load_row HR.out E m 1 _ rfl HW.out hk1 (by omega) _ (by simp)).alloc _, by simp; omega, (HB.setCell (by simp) _).alloc (by simpa using HB.size) _⟩
          case measure => simp [intOf]; omega
        case _ =>
          have hk0 : (E.kind == 3) = true := by assumption
          have hk1 : E.kind = ((2 : Nat) : Int) + 1 := by have := beq_iff_eq.1 hk0; omega
          go_roundw
          case rel => exact ⟨k + 1, by omega, by go_num, by rw [HT.out]; exact (load_row HR.out E m 2 _ rfl HW.out hk1 (by omega) _ (by simp)).alloc _, by simp; omega, (HB.setCell (by simp) _).alloc (by simpa using HB.size) _⟩
          case measure => simp [intOf]; omega
        case _ =>
          have hk1 : (E.kind == 1) = false := by assumption
          have hk2 : (E.kind == 2) = false := by assumption
          have hk3 : (E.kind == 3) = false := by assumption
          have hk4 : E.who < 1 ∨ (n : Int) < E.who ∨ E.kind < 1 ∨ 3 < E.kind := by
            have := beq_eq_false_iff_ne.1 hk1
            have := beq_eq_false_iff_ne.1 hk2
            have := beq_eq_false_iff_ne.1 hk3
            omega
          go_roundw
          case rel => exact ⟨k + 1, by omega, by go_num, by rw [HT.out]; exact (load_row_same HR.out E hk4).alloc _, by simp; omega, HB.alloc HB.size _⟩
          case measure => simp [intOf]; omega
      · go_wp2
        all_goals
          go_roundw
          case rel => exact ⟨k + 1, by omega, by go_num, by rw [HT.out]; exact (load_row_same HR.out E (by omega)).alloc _, by simp; omega, HB.alloc HB.size _⟩
          case measure => simp [intOf]; omega
    · go_wp2
      go_ret2
      obtain rfl : k = l.length := by omega
      exact ⟨rfl, by have := HR.out; rwa [List.take_length] at this, HB⟩

end Go.Proofs.Ytjknkmidcmiefaa
