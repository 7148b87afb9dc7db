/- The contract of (*book).see. -/
import Derived.Test.YtjknkmidcmiefaaBook3
namespace Go.Proofs.Ytjknkmidcmiefaa
open Go.RowKit

/-- The book in memory, whole. -/
structure Book (w : World) (b dm om n : Nat) (k : Bk) : Prop where
  cells : BkCells w b dm om k
  drawn : MapIs F54 w dm n k.drawn
  over : MapIs F3 w om n k.over
  ne : dm ≠ om

theorem Book.of_grown {w w' : World} {b dm om n : Nat} {k : Bk} (h : Book w b dm om n k) (hg : Below w.heap.size w w') : Book w' b dm om n k :=
  ⟨h.cells.of_block (hg.block b h.cells.lt), h.drawn.of_block (hg.block dm h.drawn.lt), h.over.of_block (hg.block om h.over.lt), h.ne⟩

theorem Book.mono {w : World} {b dm om n m : Nat} {k : Bk} (h : Book w b dm om n k) (hm : n ≤ m) : Book w b dm om m k := ⟨h.cells, h.drawn.mono hm, h.over.mono hm, h.ne⟩

set_option maxHeartbeats 2000000 in
theorem see_kind (b : Nat) (e : Ev) (w : World) (h : e.kind < 1 ∨ 5 < e.kind) :
    Calls Try.prog 11 #[.pointer (some ⟨b, 0, none⟩), evAgg e] w fun r w' => r = .returned (.int .i64 9) ∧ Below w.heap.size w w' := by
  unfold evAgg
  by_cases h1 : e.kind < 1
  · clear h
    go_enter Try.func11, Try.ntmps11
    go_wp2
    go_ret
    exact ⟨rfl, (Below.refl _ _).alloc (Nat.le_refl _) _⟩
  · have h2 : 5 < e.kind := by omega
    clear h
    go_enter Try.func11, Try.ntmps11
    go_wp2
    go_ret
    exact ⟨rfl, (Below.refl _ _).alloc (Nat.le_refl _) _⟩

set_option maxHeartbeats 2000000 in
theorem see_who (b dm om : Nat) (k : Bk) (e : Ev) (w : World) (hb : BkCells w b dm om k) (hk1 : 1 ≤ e.kind) (hk2 : e.kind ≤ 5) (h : e.who < 1 ∨ k.workers < e.who) :
    Calls Try.prog 11 #[.pointer (some ⟨b, 0, none⟩), evAgg e] w fun r w' => r = .returned (.int .i64 3) ∧ Below w.heap.size w w' := by
  have hlt := hb.lt
  obtain ⟨c0, c1, c2, c3, c4, c5⟩ := hb.cells
  unfold evAgg
  clear hb
  have hk3 : ¬ 5 < e.kind := by omega
  by_cases h1 : e.who < 1
  · clear h
    go_enter Try.func11, Try.ntmps11
    go_wp2
    go_quiet (fail)
    go_wp2
    go_ret
    exact ⟨rfl, below_drewN ((Below.refl _ _).alloc (Nat.le_refl _) _) _⟩
  · have h2 : k.workers < e.who := by omega
    have d1 : decide (e.who < 1) = false := decide_eq_false h1
    clear h
    go_enter Try.func11, Try.ntmps11
    go_wp2
    go_quiet (fail)
    go_wp2
    go_ret
    exact ⟨rfl, below_drewN ((Below.refl _ _).alloc (Nat.le_refl _) _) _⟩

/-- the event's box -/
def evBox (e : Ev) : Obj := .cells #[.int .i64 e.who, .int .i64 e.kind, .int .i64 e.a, .int .i64 e.b] 36

theorem book_ne {P : Program} {t : TypeId} {α : Type} {F : KeyFam P t α} {w : World} {b dm om m n : Nat} {k : Bk} {f : α → Int} (h : BkCells w b dm om k) (hm : MapIs F w m n f) : m ≠ b := by
  rintro rfl
  obtain ⟨es, clock, hb, _⟩ := hm
  unfold BkCells at h
  rw [h] at hb
  cases hb

theorem BkCells.set2 {w : World} {b dm om : Nat} {k : Bk} (h : BkCells w b dm om k) (f : Int) (o : Bool) :
    BkCells ((w.setCell ⟨b, 2, none⟩ (.int .i64 f)).setCell ⟨b, 3, none⟩ (.bool o)) b dm om { k with frames := f, op := o } := by
  unfold BkCells at h ⊢
  simp [World.setCell, Array.getElem?_modify, h]

theorem BkCells.set1 {w : World} {b dm om : Nat} {k : Bk} (h : BkCells w b dm om k) (o : Bool) :
    BkCells (w.setCell ⟨b, 3, none⟩ (.bool o)) b dm om { k with op := o } := by
  unfold BkCells at h ⊢
  simp [World.setCell, Array.getElem?_modify, h]

theorem Book.set2 {w : World} {b dm om n : Nat} {k : Bk} (h : Book w b dm om n k) (f : Int) (o : Bool) :
    Book ((w.setCell ⟨b, 2, none⟩ (.int .i64 f)).setCell ⟨b, 3, none⟩ (.bool o)) b dm om n { k with frames := f, op := o } :=
  ⟨h.cells.set2 f o, (h.drawn.setCell (book_ne h.cells h.drawn) _).setCell (book_ne h.cells h.drawn) _, (h.over.setCell (book_ne h.cells h.over) _).setCell (book_ne h.cells h.over) _, h.ne⟩

theorem Book.set1 {w : World} {b dm om n : Nat} {k : Bk} (h : Book w b dm om n k) (o : Bool) :
    Book (w.setCell ⟨b, 3, none⟩ (.bool o)) b dm om n { k with op := o } :=
  ⟨h.cells.set1 o, h.drawn.setCell (book_ne h.cells h.drawn) _, h.over.setCell (book_ne h.cells h.over) _, h.ne⟩

set_option maxHeartbeats 2000000 in
theorem see_over (b dm om n : Nat) (k : Bk) (e : Ev) (w : World) (hb : Book w b dm om n k) (hk1 : 1 ≤ e.kind) (hk2 : e.kind ≤ 5) (hw1 : 1 ≤ e.who) (hw2 : e.who ≤ k.workers) (hwi : I64 e.who) (ho : 0 < k.over e.who) :
    Calls Try.prog 11 #[.pointer (some ⟨b, 0, none⟩), evAgg e] w fun r w' => r = .returned (.int .i64 15) ∧ Below w.heap.size w w' := by
  have hlt := hb.cells.lt
  obtain ⟨c0, c1, c2, c3, c4, c5⟩ := hb.cells.cells
  have hl := fun m => ((hb.over.alloc (evBox e)).of_block (w' := (w.alloc (evBox e)).drewN m) rfl).look law3 Try.underlying42 zero3 e.who hwi
  obtain ⟨q, hq⟩ : ∃ q, q = k.over e.who := ⟨_, rfl⟩
  simp only [F3, evBox, ← hq] at hl
  rw [← hq] at ho
  unfold evAgg
  clear hb hq
  have hk3 : ¬ 5 < e.kind := by omega
  have d1 : decide (e.who < 1) = false := decide_eq_false (by omega)
  have d2 : decide (k.workers < e.who) = false := decide_eq_false (by omega)
  go_enter Try.func11, Try.ntmps11
  go_wp2
  go_quiet (fail)
  go_wp2
  go_quiet (fail)
  go_wp2
  go_ret
  exact ⟨rfl, below_drewN (below_drewN ((Below.refl _ _).alloc (Nat.le_refl _) _) _) _⟩

set_option maxHeartbeats 2000000 in
theorem see_claim_no (b dm om n : Nat) (k : Bk) (e : Ev) (w : World) (hb : Book w b dm om n k) (hw1 : 1 ≤ e.who) (hw2 : e.who ≤ k.workers) (hwi : I64 e.who) (ho : k.over e.who = 0) (hk1 : e.kind = 1) (h : k.op = true ∨ ¬ e.a = k.frames) :
    Calls Try.prog 11 #[.pointer (some ⟨b, 0, none⟩), evAgg e] w fun r w' => r = .returned (.int .i64 6) ∧ Below w.heap.size w w' := by
  have hlt := hb.cells.lt
  have HBW := Lib.hid hb
  obtain ⟨c0, c1, c2, c3, c4, c5⟩ := hb.cells.cells
  have hl := fun m => ((hb.over.alloc (evBox e)).of_block (w' := (w.alloc (evBox e)).drewN m) rfl).look law3 Try.underlying42 zero3 e.who hwi
  simp only [F3, evBox, ho] at hl
  unfold evAgg
  clear hb
  have hk3 : ¬ 5 < e.kind := by omega
  have d1 : decide (e.who < 1) = false := decide_eq_false (by omega)
  have d2 : decide (k.workers < e.who) = false := decide_eq_false (by omega)
  have ek1 : (e.kind == 1) = true := beq_iff_eq.2 hk1
  have hk4 : ¬ e.kind < 1 := by omega
  have HK := Lib.hid hk1
  clear hk1 ho
  cases hop : k.op with
  | true =>
    rw [hop] at c3
    clear h hop
    go_enter Try.func11, Try.ntmps11
    go_wp2
    go_quiet (fail)
    go_wp2
    go_quiet (fail)
    go_wp2
    go_quiet (fail)
    go_wp2
    go_ret
    exact ⟨rfl, by repeat (first | exact (Below.refl _ _).alloc (Nat.le_refl _) _ | apply below_drewN)⟩
  | false =>
    have ea : (e.a == k.frames) = false := beq_eq_false_iff_ne.2 (by rcases h with h | h; rw [hop] at h; cases h; exact h)
    have ea2 : (e.a != k.frames) = true := by rw [bne, ea]; rfl
    rw [hop] at c3
    clear h hop
    go_enter Try.func11, Try.ntmps11
    go_wp2
    go_quiet (fail)
    go_wp2
    go_quiet (fail)
    go_wp2
    go_quiet (fail)
    go_wp2
    go_ret
    exact ⟨rfl, by repeat (first | exact (Below.refl _ _).alloc (Nat.le_refl _) _ | apply below_drewN)⟩

set_option maxHeartbeats 2000000 in
theorem see_claim_ok (b dm om n : Nat) (k : Bk) (e : Ev) (w : World) (hb : Book w b dm om n k) (hw1 : 1 ≤ e.who) (hw2 : e.who ≤ k.workers) (hwi : I64 e.who) (ho : k.over e.who = 0) (B : Nat) (hB : B ≤ b) (hBw : B ≤ w.heap.size) (hk1 : e.kind = 1) (hop : k.op = false) (hf : e.a = k.frames) (hf0 : 0 ≤ k.frames) (hf1 : k.frames ≤ 1000) :
    Calls Try.prog 11 #[.pointer (some ⟨b, 0, none⟩), evAgg e] w fun r w' => r = .returned (.int .i64 0) ∧ Book w' b dm om n { k with frames := k.frames + 1, op := true } ∧ Below B w w' := by
  have hlt := hb.cells.lt
  have HBW := Lib.hid hb
  obtain ⟨c0, c1, c2, c3, c4, c5⟩ := hb.cells.cells
  have hl := fun m => ((hb.over.alloc (evBox e)).of_block (w' := (w.alloc (evBox e)).drewN m) rfl).look law3 Try.underlying42 zero3 e.who hwi
  simp only [F3, evBox, ho] at hl
  unfold evAgg
  clear hb
  have hk3 : ¬ 5 < e.kind := by omega
  have d1 : decide (e.who < 1) = false := decide_eq_false (by omega)
  have d2 : decide (k.workers < e.who) = false := decide_eq_false (by omega)
  have ek1 : (e.kind == 1) = true := beq_iff_eq.2 hk1
  have hk4 : ¬ e.kind < 1 := by omega
  have ea : (e.a == k.frames) = true := beq_iff_eq.2 hf
  have ea2 : (e.a != k.frames) = false := by rw [bne, ea]; rfl
  have HK := Lib.hid hk1
  have f2 := HBW.out.cells.frozen 2
  have f3 := HBW.out.cells.frozen 3
  rw [hop] at c3
  clear hk1 ho hop hf
  go_enter Try.func11, Try.ntmps11
  go_wp2
  go_quiet (fail)
  obtain ⟨q1, rfl⟩ : ∃ q, q = nq := ⟨_, rfl⟩
  go_wp2
  go_quiet (fail)
  obtain ⟨q2, rfl⟩ : ∃ q, q = nq := ⟨_, rfl⟩
  go_wp2
  go_quiet (fail)
  obtain ⟨q3, rfl⟩ : ∃ q, q = nq := ⟨_, rfl⟩
  go_wp2
  go_ret
  exact ⟨rfl, (HBW.out.of_grown (below_drewN ((Below.refl _ _).alloc (Nat.le_refl _) _) _)).set2 _ _, ((below_drewN ((Below.refl B w).alloc hBw _) _).setCell hB _).setCell hB _⟩

/-- the same book, the box of the event behind it -/
theorem Book.boxed {w : World} {b dm om n : Nat} {k : Bk} (h : Book w b dm om n k) (o : Obj) (m : Nat) : Book ((w.alloc o).drewN m) b dm om n k :=
  h.of_grown (below_drewN ((Below.refl _ _).alloc (Nat.le_refl _) _) _)

set_option maxHeartbeats 2000000 in
theorem see_other (b dm om n : Nat) (k : Bk) (e : Ev) (w : World) (hb : Book w b dm om n k) (hw1 : 1 ≤ e.who) (hw2 : e.who ≤ k.workers) (hwi : I64 e.who) (ho : k.over e.who = 0) (B : Nat) (hBw : B ≤ w.heap.size) (c : Int) (f : Nat) (hf : (f = 13 ∧ e.kind = 2) ∨ (f = 14 ∧ e.kind = 3)) (R : World → Prop)
    (hcall : ∀ W, Book W b dm om n k → Calls Try.prog f #[.pointer (some ⟨b, 0, none⟩), evAgg e] W fun r w' => r = .returned (.int .i64 c) ∧ R w' ∧ Below B W w') :
    Calls Try.prog 11 #[.pointer (some ⟨b, 0, none⟩), evAgg e] w fun r w' => r = .returned (.int .i64 c) ∧ R w' ∧ Below B w w' := by
  have hlt := hb.cells.lt
  have HBW := Lib.hid hb
  obtain ⟨c0, c1, c2, c3, c4, c5⟩ := hb.cells.cells
  have hl := fun m => ((hb.over.alloc (evBox e)).of_block (w' := (w.alloc (evBox e)).drewN m) rfl).look law3 Try.underlying42 zero3 e.who hwi
  simp only [F3, evBox, ho] at hl
  unfold evAgg
  clear hb
  have hk3 : ¬ 5 < e.kind := by omega
  have d1 : decide (e.who < 1) = false := decide_eq_false (by omega)
  have d2 : decide (k.workers < e.who) = false := decide_eq_false (by omega)
  have hc := fun o m => hcall _ (HBW.out.boxed o m)
  unfold evAgg at hc
  have HC := Lib.hid hc
  clear hc hcall ho
  have hk4 : ¬ e.kind < 1 := by omega
  have ek1 : (e.kind == 1) = false := beq_eq_false_iff_ne.2 (by omega)
  rcases hf with ⟨rfl, hk1⟩ | ⟨rfl, hk1⟩
  · have ek2 : (e.kind == 2) = true := beq_iff_eq.2 hk1
    have HK := Lib.hid hk1
    clear hk1
    go_enter Try.func11, Try.ntmps11
    go_wp2
    go_quiet (fail)
    obtain ⟨q1, rfl⟩ : ∃ q, q = nq := ⟨_, rfl⟩
    go_wp2
    go_quiet (fail)
    obtain ⟨q2, rfl⟩ : ∃ q, q = nq := ⟨_, rfl⟩
    go_wp2_with (go_at_call 13; refine (HC.out _ _).mono ?_; rintro r w' ⟨rfl, hR, hB'⟩)
    go_ret
    exact ⟨rfl, hR, (below_drewN ((Below.refl B w).alloc hBw _) _).trans hB'⟩
  · have ek2 : (e.kind == 2) = false := beq_eq_false_iff_ne.2 (by omega)
    have ek3 : (e.kind == 3) = true := beq_iff_eq.2 hk1
    have HK := Lib.hid hk1
    clear hk1
    go_enter Try.func11, Try.ntmps11
    go_wp2
    go_quiet (fail)
    obtain ⟨q1, rfl⟩ : ∃ q, q = nq := ⟨_, rfl⟩
    go_wp2
    go_quiet (fail)
    obtain ⟨q2, rfl⟩ : ∃ q, q = nq := ⟨_, rfl⟩
    go_wp2_with (go_at_call 14; refine (HC.out _ _).mono ?_; rintro r w' ⟨rfl, hR, hB'⟩)
    go_ret
    exact ⟨rfl, hR, (below_drewN ((Below.refl B w).alloc hBw _) _).trans hB'⟩

set_option maxHeartbeats 2000000 in
theorem see_retire_no (b dm om n : Nat) (k : Bk) (e : Ev) (w : World) (hb : Book w b dm om n k) (hw1 : 1 ≤ e.who) (hw2 : e.who ≤ k.workers) (hwi : I64 e.who) (ho : k.over e.who = 0) (hk1 : e.kind = 4) (hf0 : 0 ≤ k.frames) (hf1 : k.frames ≤ 1000) (h : ¬ k.cur e.a) :
    Calls Try.prog 11 #[.pointer (some ⟨b, 0, none⟩), evAgg e] w fun r w' => r = .returned (.int .i64 6) ∧ Below w.heap.size w w' := by
  have hlt := hb.cells.lt
  have HBW := Lib.hid hb
  obtain ⟨c0, c1, c2, c3, c4, c5⟩ := hb.cells.cells
  have hl := fun m => ((hb.over.alloc (evBox e)).of_block (w' := (w.alloc (evBox e)).drewN m) rfl).look law3 Try.underlying42 zero3 e.who hwi
  simp only [F3, evBox, ho] at hl
  unfold evAgg
  clear hb
  have hk3 : ¬ 5 < e.kind := by omega
  have d1 : decide (e.who < 1) = false := decide_eq_false (by omega)
  have d2 : decide (k.workers < e.who) = false := decide_eq_false (by omega)
  have hk4 : ¬ e.kind < 1 := by omega
  have ek1 : (e.kind == 1) = false := beq_eq_false_iff_ne.2 (by omega)
  have ek2 : (e.kind == 2) = false := beq_eq_false_iff_ne.2 (by omega)
  have ek3 : (e.kind == 3) = false := beq_eq_false_iff_ne.2 (by omega)
  have ek4 : (e.kind == 4) = true := beq_iff_eq.2 hk1
  have HK := Lib.hid hk1
  clear hk1 ho
  cases hop : k.op with
  | false =>
    rw [hop] at c3
    clear h hop
    go_enter Try.func11, Try.ntmps11
    go_wp2
    go_quiet (fail)
    obtain ⟨q1, rfl⟩ : ∃ q, q = nq := ⟨_, rfl⟩
    go_wp2
    go_quiet (fail)
    obtain ⟨q2, rfl⟩ : ∃ q, q = nq := ⟨_, rfl⟩
    go_wp2
    go_ret
    exact ⟨rfl, by repeat (first | exact (Below.refl _ _).alloc (Nat.le_refl _) _ | apply below_drewN)⟩
  | true =>
    have hno := Lib.hid (fun o m => now_no b dm om k e.a _ (HBW.out.boxed o m).cells hf0 hf1 (fun h9 => h ⟨hop, h9⟩))
    rw [hop] at c3
    clear h hop
    go_enter Try.func11, Try.ntmps11
    go_wp2
    go_quiet (fail)
    obtain ⟨q1, rfl⟩ : ∃ q, q = nq := ⟨_, rfl⟩
    go_wp2
    go_quiet (fail)
    obtain ⟨q2, rfl⟩ : ∃ q, q = nq := ⟨_, rfl⟩
    go_wp2_with (go_at_call 15; refine (hno.out _ _).mono ?_; rintro r w' ⟨rfl, rfl⟩)
    go_ret
    exact ⟨rfl, by repeat (first | exact (Below.refl _ _).alloc (Nat.le_refl _) _ | apply below_drewN)⟩

set_option maxHeartbeats 2000000 in
theorem see_retire_ok (b dm om n : Nat) (k : Bk) (e : Ev) (w : World) (hb : Book w b dm om n k) (hw1 : 1 ≤ e.who) (hw2 : e.who ≤ k.workers) (hwi : I64 e.who) (ho : k.over e.who = 0) (B : Nat) (hB : B ≤ b) (hBw : B ≤ w.heap.size) (hk1 : e.kind = 4) (hf1 : k.frames ≤ 1000) (h : k.cur e.a) :
    Calls Try.prog 11 #[.pointer (some ⟨b, 0, none⟩), evAgg e] w fun r w' => r = .returned (.int .i64 0) ∧ Book w' b dm om n { k with op := false } ∧ Below B w w' := by
  have hlt := hb.cells.lt
  have HBW := Lib.hid hb
  obtain ⟨c0, c1, c2, c3, c4, c5⟩ := hb.cells.cells
  have hl := fun m => ((hb.over.alloc (evBox e)).of_block (w' := (w.alloc (evBox e)).drewN m) rfl).look law3 Try.underlying42 zero3 e.who hwi
  simp only [F3, evBox, ho] at hl
  unfold evAgg
  clear hb
  have hk3 : ¬ 5 < e.kind := by omega
  have d1 : decide (e.who < 1) = false := decide_eq_false (by omega)
  have d2 : decide (k.workers < e.who) = false := decide_eq_false (by omega)
  have hk4 : ¬ e.kind < 1 := by omega
  have ek1 : (e.kind == 1) = false := beq_eq_false_iff_ne.2 (by omega)
  have ek2 : (e.kind == 2) = false := beq_eq_false_iff_ne.2 (by omega)
  have ek3 : (e.kind == 3) = false := beq_eq_false_iff_ne.2 (by omega)
  have ek4 : (e.kind == 4) = true := beq_iff_eq.2 hk1
  have HK := Lib.hid hk1
  have f3 := HBW.out.cells.frozen 3
  obtain ⟨hop, h1, h2⟩ := h
  have hno := Lib.hid (fun o m => now_yes b dm om k e.a _ (HBW.out.boxed o m).cells h1 hf1 h2)
  rw [hop] at c3
  clear hk1 ho h2 hop
  go_enter Try.func11, Try.ntmps11
  go_wp2
  go_quiet (fail)
  obtain ⟨q1, rfl⟩ : ∃ q, q = nq := ⟨_, rfl⟩
  go_wp2
  go_quiet (fail)
  obtain ⟨q2, rfl⟩ : ∃ q, q = nq := ⟨_, rfl⟩
  go_wp2_with (go_at_call 15; refine (hno.out _ _).mono ?_; rintro r w' ⟨rfl, rfl⟩)
  go_ret
  exact ⟨rfl, (HBW.out.of_grown (below_drewN ((Below.refl _ _).alloc (Nat.le_refl _) _) _)).set1 _, (below_drewN ((Below.refl B w).alloc hBw _) _).setCell hB _⟩

theorem Book.ended {w w' : World} {b dm om n : Nat} {k : Bk} {f : Int → Int} (h : Book w b dm om n k) (hm : MapIs F3 w' om (n + 1) f) (hg : w.grownBy w' (some om)) : Book w' b dm om (n + 1) { k with over := f } :=
  ⟨h.cells.of_block (hg.block b h.cells.lt (fun e => book_ne h.cells h.over (by injection e with e; exact e.symm))), (h.drawn.grown hg (fun e => h.ne (by injection e))).mono (by omega), hm, h.ne⟩

theorem Book.drew1 {w w' : World} {b dm om n : Nat} {k : Bk} {f : Int × Int → Int} (h : Book w b dm om n k) (hm : MapIs F54 w' dm (n + 1) f) (hg : w.grownBy w' (some dm)) : Book w' b dm om (n + 1) { k with drawn := f } :=
  ⟨h.cells.of_block (hg.block b h.cells.lt (fun e => book_ne h.cells h.drawn (by injection e with e; exact e.symm))), hm, (h.over.grown hg (fun e => h.ne (by injection e with e; exact e.symm))).mono (by omega), h.ne⟩

end Go.Proofs.Ytjknkmidcmiefaa
