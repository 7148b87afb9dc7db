/- The contracts of (*book).now, draw and steal. -/
import Derived.Test.YtjknkmidcmiefaaBook
namespace Go.Proofs.Ytjknkmidcmiefaa
open Go.RowKit

/-- The book, as plain data. -/
structure Bk where
  workers : Int
  tiles : Int
  frames : Int
  op : Bool
  drawn : Int × Int → Int
  over : Int → Int

/-- The book's cells. -/
def BkCells (w : World) (b dm om : Nat) (k : Bk) : Prop :=
  w.heap[b]? = some (.cells #[.int .i64 k.workers, .int .i64 k.tiles, .int .i64 k.frames, .bool k.op, .map (some dm), .map (some om)] 44 (0, 0))

theorem BkCells.lt {w : World} {b dm om : Nat} {k : Bk} (h : BkCells w b dm om k) : b < w.heap.size := (Array.getElem?_eq_some_iff.1 h).1
theorem BkCells.of_block {w w' : World} {b dm om : Nat} {k : Bk} (h : BkCells w b dm om k) (e : w'.heap[b]? = w.heap[b]?) : BkCells w' b dm om k := e.trans h
theorem BkCells.cells {w : World} {b dm om : Nat} {k : Bk} (h : BkCells w b dm om k) :
    w.cell? ⟨b, 0, none⟩ = some (.int .i64 k.workers) ∧ w.cell? ⟨b, 1, none⟩ = some (.int .i64 k.tiles) ∧ w.cell? ⟨b, 2, none⟩ = some (.int .i64 k.frames) ∧
    w.cell? ⟨b, 3, none⟩ = some (.bool k.op) ∧ w.cell? ⟨b, 4, none⟩ = some (.map (some dm)) ∧ w.cell? ⟨b, 5, none⟩ = some (.map (some om)) := by
  unfold BkCells at h
  simp [World.cell?, h]
theorem BkCells.frozen {w : World} {b dm om : Nat} {k : Bk} (h : BkCells w b dm om k) (i : Nat) : w.frozen? ⟨b, i, none⟩ = false := by
  unfold BkCells at h
  simp [World.frozen?, h]

def evAgg (e : Ev) : Value := .agg #[.int .i64 e.who, .int .i64 e.kind, .int .i64 e.a, .int .i64 e.b]

theorem below_drewN {B : Nat} {a w : World} (h : Below B a w) (n : Nat) : Below B a (w.drewN n) := ⟨h.os, h.tape, h.output, h.size, h.block⟩
theorem zero3 (u : World) : (zeroValue 3).run Try.prog u = .ok (.int .i64 0) u := by kernel_rfl

theorem grown_trans {a b c : World} {r : Option Nat} (h : a.grownBy b r) (k : b.grownBy c r) : a.grownBy c r :=
  ⟨k.os.trans h.os, k.tape.trans h.tape, k.output.trans h.output, Nat.le_trans h.size k.size, fun i hi hn => (k.block i (Nat.lt_of_lt_of_le hi h.size) hn).trans (h.block i hi hn)⟩

def nowB (frames frame : Int) : Bool := decide (0 < frames) && frame == frames - 1

set_option maxHeartbeats 400000 in
theorem now_yes (b dm om : Nat) (k : Bk) (frame : Int) (w : World) (hb : BkCells w b dm om k) (h1 : 0 < k.frames) (h2 : k.frames ≤ 1000) (h3 : frame = k.frames - 1) :
    Calls Try.prog 15 #[.pointer (some ⟨b, 0, none⟩), .int .i64 frame] w fun e w' => e = .returned (.bool true) ∧ w = w' := by
  obtain ⟨c0, c1, c2, c3, c4, c5⟩ := hb.cells
  have e1 : (frame == k.frames - 1) = true := by rw [h3]; simp
  clear hb h3
  go_enter Try.func15, Try.ntmps15
  go_wp2
  go_ret
  exact ⟨rfl, rfl⟩

set_option maxHeartbeats 400000 in
theorem now_no (b dm om : Nat) (k : Bk) (frame : Int) (w : World) (hb : BkCells w b dm om k) (h0 : 0 ≤ k.frames) (h2 : k.frames ≤ 1000) (h3 : ¬ (0 < k.frames ∧ frame = k.frames - 1)) :
    Calls Try.prog 15 #[.pointer (some ⟨b, 0, none⟩), .int .i64 frame] w fun e w' => e = .returned (.bool false) ∧ w = w' := by
  obtain ⟨c0, c1, c2, c3, c4, c5⟩ := hb.cells
  by_cases h1 : 0 < k.frames
  · have e1 : (frame == k.frames - 1) = false := beq_eq_false_iff_ne.2 (fun e => h3 ⟨h1, e⟩)
    clear hb h3
    go_enter Try.func15, Try.ntmps15
    go_wp2
    go_ret
    exact ⟨rfl, rfl⟩
  · clear hb h3
    go_enter Try.func15, Try.ntmps15
    go_wp2
    go_ret
    exact ⟨rfl, rfl⟩

/-- may a draw or an end name this frame? -/
def Bk.cur (k : Bk) (frame : Int) : Prop := k.op = true ∧ 0 < k.frames ∧ frame = k.frames - 1

set_option maxHeartbeats 1000000 in
theorem draw_form (b dm om : Nat) (k : Bk) (e : Ev) (w : World) (hb : BkCells w b dm om k) (h0 : 0 ≤ k.frames) (h2 : k.frames ≤ 1000) (h3 : ¬ k.cur e.a) :
    Calls Try.prog 13 #[.pointer (some ⟨b, 0, none⟩), evAgg e] w fun r w' => r = .returned (.int .i64 6) ∧ Below w.heap.size w w' := by
  have hlt := hb.lt
  obtain ⟨c0, c1, c2, c3, c4, c5⟩ := hb.cells
  unfold evAgg
  cases ho : k.op with
  | false =>
    rw [ho] at c3
    clear hb h3 ho
    go_enter Try.func13, Try.ntmps13
    go_wp2
    go_ret
    exact ⟨rfl, (Below.refl _ _).alloc (Nat.le_refl _) _⟩
  | true =>
    rw [ho] at c3
    have hno := fun W hB => now_no b dm om k e.a W hB h0 h2 (fun h => h3 ⟨ho, h⟩)
    have hb' := Lib.hid (fun o => hb.of_block (w' := w.alloc o) (Below.heap_alloc w o b hlt))
    clear hb h3 ho
    go_enter Try.func13, Try.ntmps13
    go_wp2_with (go_at_call 15; refine (hno _ (hb'.out _)).mono ?_; rintro r w' ⟨rfl, rfl⟩)
    go_ret
    exact ⟨rfl, (Below.refl _ _).alloc (Nat.le_refl _) _⟩

set_option maxHeartbeats 2000000 in
theorem draw_index (b dm om : Nat) (k : Bk) (e : Ev) (w : World) (hb : BkCells w b dm om k) (h2 : k.frames ≤ 1000) (h3 : k.cur e.a) (h4 : e.b < 0 ∨ k.tiles ≤ e.b) :
    Calls Try.prog 13 #[.pointer (some ⟨b, 0, none⟩), evAgg e] w fun r w' => r = .returned (.int .i64 10) ∧ Below w.heap.size w w' := by
  have hlt := hb.lt
  obtain ⟨c0, c1, c2, c3, c4, c5⟩ := hb.cells
  obtain ⟨ho, hf1, hf2⟩ := h3
  unfold evAgg
  rw [ho] at c3
  have hno := fun W hB => now_yes b dm om k e.a W hB hf1 h2 hf2
  have hb' := Lib.hid (fun o => hb.of_block (w' := w.alloc o) (Below.heap_alloc w o b hlt))
  clear hb ho hf2
  by_cases h5 : e.b < 0
  · clear h4
    go_enter Try.func13, Try.ntmps13
    go_wp2_with (go_at_call 15; refine (hno _ (hb'.out _)).mono ?_; rintro r w' ⟨rfl, rfl⟩)
    go_quiet (fail)
    go_wp2
    go_ret
    exact ⟨rfl, below_drewN ((Below.refl _ _).alloc (Nat.le_refl _) _) _⟩
  · have h6 : k.tiles ≤ e.b := by omega
    have d1 : decide (e.b < 0) = false := decide_eq_false h5
    clear h4
    go_enter Try.func13, Try.ntmps13
    go_wp2_with (go_at_call 15; refine (hno _ (hb'.out _)).mono ?_; rintro r w' ⟨rfl, rfl⟩)
    go_quiet (fail)
    go_wp2
    go_ret
    exact ⟨rfl, below_drewN ((Below.refl _ _).alloc (Nat.le_refl _) _) _⟩

set_option maxHeartbeats 2000000 in
theorem draw_big (b dm om n : Nat) (k : Bk) (e : Ev) (w : World) (hb : BkCells w b dm om k) (hm : MapIs F54 w dm n k.drawn) (h2 : k.frames ≤ 1000) (h3 : k.cur e.a) (h4 : 0 ≤ e.b) (h5 : e.b < k.tiles) (ha : I64 e.a) (hbb : I64 e.b)
    (h6 : 0 < k.drawn (e.a, e.b)) :
    Calls Try.prog 13 #[.pointer (some ⟨b, 0, none⟩), evAgg e] w fun r w' => r = .returned (.int .i64 4) ∧ Below w.heap.size w w' := by
  have hlt := hb.lt
  obtain ⟨c0, c1, c2, c3, c4, c5⟩ := hb.cells
  obtain ⟨ho, hf1, hf2⟩ := h3
  unfold evAgg
  rw [ho] at c3
  have hno := fun W hB => now_yes b dm om k e.a W hB hf1 h2 hf2
  have hb' := Lib.hid (fun o => hb.of_block (w' := w.alloc o) (Below.heap_alloc w o b hlt))
  have hl := fun m => ((hm.alloc (.cells #[.int .i64 e.who, .int .i64 e.kind, .int .i64 e.a, .int .i64 e.b] 36)).of_block (w' := (w.alloc (.cells #[.int .i64 e.who, .int .i64 e.kind, .int .i64 e.a, .int .i64 e.b] 36)).drewN m) rfl).look law54 Try.underlying41 zero3 (e.a, e.b) ⟨ha, hbb⟩
  have d1 : decide (e.b < 0) = false := decide_eq_false (by omega)
  have d2 : decide (k.tiles ≤ e.b) = false := decide_eq_false (by omega)
  have hl0 := hl 0
  obtain ⟨q, hq⟩ : ∃ q, q = k.drawn (e.a, e.b) := ⟨_, rfl⟩
  simp only [F54, ← hq] at hl
  rw [← hq] at h6
  clear hb ho hf2 hm hq hl0
  go_enter Try.func13, Try.ntmps13
  go_wp2_with (go_at_call 15; refine (hno _ (hb'.out _)).mono ?_; rintro r w' ⟨rfl, rfl⟩)
  go_quiet (fail)
  go_wp2
  go_quiet (fail)
  go_wp2
  go_ret
  exact ⟨rfl, below_drewN (below_drewN ((Below.refl _ _).alloc (Nat.le_refl _) _) _) _⟩

set_option maxHeartbeats 2000000 in
theorem draw_ok (b dm om n : Nat) (k : Bk) (e : Ev) (w : World) (hb : BkCells w b dm om k) (hm : MapIs F54 w dm n k.drawn) (h2 : k.frames ≤ 1000) (h3 : k.cur e.a) (h4 : 0 ≤ e.b) (h5 : e.b < k.tiles) (ha : I64 e.a) (hbb : I64 e.b)
    (h6 : k.drawn (e.a, e.b) = 0) :
    Calls Try.prog 13 #[.pointer (some ⟨b, 0, none⟩), evAgg e] w fun r w' => r = .returned (.int .i64 0) ∧ MapIs F54 w' dm (n + 1) (upd k.drawn (e.a, e.b) 1) ∧ w.grownBy w' (some dm) := by
  have hlt := hb.lt
  have hltm := hm.lt
  obtain ⟨c0, c1, c2, c3, c4, c5⟩ := hb.cells
  obtain ⟨ho, hf1, hf2⟩ := h3
  unfold evAgg
  rw [ho] at c3
  have hno := fun W hB => now_yes b dm om k e.a W hB hf1 h2 hf2
  have hb' := Lib.hid (fun o => hb.of_block (w' := w.alloc o) (Below.heap_alloc w o b hlt))
  have HM := Lib.hid (fun m => ((hm.alloc (.cells #[.int .i64 e.who, .int .i64 e.kind, .int .i64 e.a, .int .i64 e.b] 36)).of_block (w' := (w.alloc (.cells #[.int .i64 e.who, .int .i64 e.kind, .int .i64 e.a, .int .i64 e.b] 36)).drewN m) rfl))
  have hl := fun m => (HM.out m).look law54 Try.underlying41 zero3 (e.a, e.b) ⟨ha, hbb⟩
  have d1 : decide (e.b < 0) = false := decide_eq_false (by omega)
  have d2 : decide (k.tiles ≤ e.b) = false := decide_eq_false (by omega)
  simp only [F54, h6] at hl
  have H6 := Lib.hid h6
  clear hb ho hf2 hm h6
  go_enter Try.func13, Try.ntmps13
  go_wp2_with (go_at_call 15; refine (hno _ (hb'.out _)).mono ?_; rintro r w' ⟨rfl, rfl⟩)
  go_quiet (fail)
  obtain ⟨q1, rfl⟩ : ∃ q, q = nq := ⟨_, rfl⟩
  go_wp2
  go_quiet (fail)
  obtain ⟨q2, rfl⟩ : ∃ q, q = nq := ⟨_, rfl⟩
  go_wp2
  obtain ⟨V, hV⟩ : ∃ V, V = ((w.alloc (.cells #[.int .i64 e.who, .int .i64 e.kind, .int .i64 e.a, .int .i64 e.b] 36)).drewN q1).drewN q2 := ⟨_, rfl⟩
  rw [← hV]
  have v4 : V.cell? ⟨b, 4, none⟩ = some (.map (some dm)) := by rw [hV]; exact (World.cell?_alloc_lt w _ ⟨b, 4, none⟩ hlt).trans c4
  have e2 : V.cell? ⟨w.heap.size, 2, none⟩ = some (.int .i64 e.a) := by
    rw [hV]
    show (w.alloc (.cells #[.int .i64 e.who, .int .i64 e.kind, .int .i64 e.a, .int .i64 e.b] 36)).cell? ⟨w.heap.size, 2, none⟩ = _
    simp
  have e3 : V.cell? ⟨w.heap.size, 3, none⟩ = some (.int .i64 e.b) := by
    rw [hV]
    show (w.alloc (.cells #[.int .i64 e.who, .int .i64 e.kind, .int .i64 e.a, .int .i64 e.b] 36)).cell? ⟨w.heap.size, 3, none⟩ = _
    simp
  have hMV : MapIs F54 V.drew dm n k.drawn := (HM.out q1).of_block (by rw [hV]; rfl)
  have hgV : w.grownBy V.drew (some dm) := by
    rw [hV]
    exact ⟨rfl, rfl, rfl, by show w.heap.size ≤ (w.alloc _).heap.size; simp, fun i hi _ => Below.heap_alloc w _ i hi⟩
  clear hV hl c0 c1 c2 c3 c4 c5 HM hb' hno
  have hl := hMV.look law54 Try.underlying41 zero3 (e.a, e.b) ⟨ha, hbb⟩
  obtain ⟨st, w1, hE, hM1, hG1, hS⟩ := hMV.entry law54 Try.underlying41 zero3 (e.a, e.b) ⟨ha, hbb⟩
  have hl1 := hM1.look law54 Try.underlying41 zero3 (e.a, e.b) ⟨ha, hbb⟩
  obtain ⟨w3, hS3, hM3, hG3, _⟩ := hS w1 1 rfl
  simp only [F54, H6.out] at hl hE hl1
  have HM3 := Lib.hid hM3
  have HG3 := Lib.hid (grown_trans (grown_trans hgV hG1) hG3)
  clear hM3 hG3 hS hG1 hM1 hMV hgV
  go_region
  all_goals (go_wp2; go_ret; exact ⟨rfl, HM3.out, HG3.out⟩)

end Go.Proofs.Ytjknkmidcmiefaa
