import Derived.Test.YthfmmkgdheemhaaRead1
import Derived.Maps.AppendAt
namespace Go.Proofs.Ythfmmkgdheemhaa
open Go Go.RowKit

/-- A pixel of a picture, or the zero pixel. -/
def lookPx (wd ht : Nat) (pix : Nat → Px) (x y : Int) : Px := if 0 ≤ x ∧ x < wd ∧ 0 ≤ y ∧ y < ht then pix (y.toNat * wd + x.toNat) else noPx
theorem at_any (w : World) (pb B wd ht cap : Nat) (pix : Nat → Px) (x y : Int) (hP : Pic w pb B wd ht cap pix) (hw : wd ≤ 256) (hh : ht ≤ 256) :
    Calls Try.prog 5 #[.pointer (some ⟨pb, 0, none⟩), .int .i64 x, .int .i64 y] w fun e w' => e = .returned (.tuple #[(lookPx wd ht pix x y).val, .bool (decide (0 ≤ x ∧ x < wd ∧ 0 ≤ y ∧ y < ht))]) ∧ Grew w w' := by
  unfold lookPx
  by_cases h : 0 ≤ x ∧ x < wd ∧ 0 ≤ y ∧ y < ht
  · rw [if_pos h, decide_eq_true h]
    obtain ⟨i, rfl⟩ : ∃ i : Nat, x = i := ⟨x.toNat, by omega⟩
    obtain ⟨j, rfl⟩ : ∃ j : Nat, y = j := ⟨y.toNat, by omega⟩
    exact at_in w pb B wd ht cap pix i j hP (by omega) (by omega) hw hh
  · rw [if_neg h, decide_eq_false h]
    exact at_out w pb B wd ht cap pix x y hP (by omega)
def shown (what : Int) (p : Px) : Int := if what = 0 then packV p.r p.g p.b p.a else if what = 1 then p.z else p.s
theorem lookPx_ok (wd ht : Nat) (pix : Nat → Px) (x y : Int) (h : ∀ i, i < wd * ht → (pix i).ok = true) : (lookPx wd ht pix x y).ok = true := by
  unfold lookPx
  split
  · rename_i hc
    refine h _ ?_
    obtain ⟨i, rfl⟩ : ∃ i : Nat, x = i := ⟨x.toNat, by omega⟩
    obtain ⟨j, rfl⟩ : ∃ j : Nat, y = j := ⟨y.toNat, by omega⟩
    have h1 : i < wd := by omega
    have h2 : j < ht := by omega
    have : (j + 1) * wd ≤ ht * wd := Nat.mul_le_mul_right _ h2
    rw [Nat.succ_mul, Nat.mul_comm ht wd] at this
    simp
    omega
  · rfl

theorem Pic.below {V W : World} {pb B w h cap : Nat} {pix : Nat → Px} (p : Pic V pb B w h cap pix) (hb : Below V.heap.size V W) : Pic W pb B w h cap pix := by
  have cc : ∀ b o, b < V.heap.size → W.cell? ⟨b, o, none⟩ = V.cell? ⟨b, o, none⟩ := fun b o h => hb.cell (p := ⟨b, o, none⟩) h
  refine ⟨(cc _ _ p.lt).trans p.c0, (cc _ _ p.lt).trans p.c1, (cc _ _ p.lt).trans p.c2, p.ne, Nat.lt_of_lt_of_le p.lt hb.size, Nat.lt_of_lt_of_le p.ltB hb.size, fun i hi => ?_, fun j => (hb.frozen (p := ⟨B, j, none⟩) p.ltB).trans (p.fr j)⟩
  obtain ⟨h0, h1, h2, h3, h4, h5⟩ := p.px i hi
  exact ⟨(cc _ _ p.ltB).trans h0, (cc _ _ p.ltB).trans h1, (cc _ _ p.ltB).trans h2, (cc _ _ p.ltB).trans h3, (cc _ _ p.ltB).trans h4, (cc _ _ p.ltB).trans h5⟩
theorem Grew.keeps {W W' : World} (h : Grew W W') : KeepsOthers W W' := KeepsOthers.of_grownBy (h.gb none) (fun j o e => by cases e)
theorem Grew.row {W W' : World} (h : Grew W W') {base : Nat} {e : TypeId} {size : Nat} {v : Value} {n : Nat} {xs : List Value} (hr : W.ownsRow base e size v n xs) : W'.ownsRow base e size v n xs :=
  hr.kept (h.gb none) (by cases v.ownBlock <;> simp)
theorem Grew.heap {W W' : World} (h : Grew W W') {k : Nat} {o : Obj} (ho : W.heap[k]? = some o) : W'.heap[k]? = some o := (h.below.block _ (Array.getElem?_eq_some_iff.1 ho).1).trans ho
theorem frozen_of_row {W : World} {k : Nat} {c : Array Value} {t : TypeId} (h : W.heap[k]? = some (.cells c t (0, 0))) (o : Nat) : W.frozen? ⟨k, o, none⟩ = false := by
  simp [World.frozen?, h]
theorem heap_setCell_same {W : World} {k : Nat} {c : Array Value} {t : TypeId} {fr : Nat × Nat} (h : W.heap[k]? = some (.cells c t fr)) (o : Nat) (u : Value) : (W.setCell ⟨k, o, none⟩ u).heap[k]? = some (.cells (c.setIfInBounds o u) t fr) := by
  obtain ⟨hlt, hk⟩ := Array.getElem?_eq_some_iff.1 h
  show (W.heap.modify k _)[k]? = _
  rw [Array.getElem?_eq_getElem (by rw [Array.size_modify]; exact hlt), Array.getElem_modify_self, hk]
  rfl
theorem ownsRow_mono {w : World} {base base' : Nat} {e : TypeId} {size : Nat} {v : Value} {n : Nat} {xs : List Value} (h : w.ownsRow base e size v n xs) (hb : base' ≤ base) : w.ownsRow base' e size v n xs := by
  refine ⟨h.1, ?_⟩
  rcases h.2 with hn | ⟨g, cap, cur, e1, hg, rest⟩
  · exact .inl hn
  · exact .inr ⟨g, cap, cur, e1, Nat.le_trans hb hg, rest⟩
/-- What lies in memory between two rounds of Read. -/
structure RI (w : World) (S OB D : Nat) (pv kv : Value) (W H : Int) (f : Int × Int → Int) (pre : List (Int × Int)) (V : World) : Prop where
  hp : V.heap[S]? = some (.cells #[pv] 24)
  hk : V.heap[S + 1]? = some (.cells #[kv] 3)
  hr : V.heap[S + 1 + 1 + 1]? = some (.cells #[.int .i64 0, .int .i64 0, .slice none 0 0] 27)
  ho : ∃ v, V.heap[OB]? = some (.cells #[.int .i64 W, .int .i64 H, v] 27) ∧ V.ownsRow D 3 1 v pre.length (pre.map fun p => Value.int .i64 (f p))
  hb : Below S w V
theorem cells_kept {A B : World} {row : Option Nat} {k : Nat} {c : Array Value} {t : TypeId} {fr : Nat × Nat} (h : A.heap[k]? = some (.cells c t fr)) (hg : A.grownBy B row) (hr : ∀ r, row = some r → ∃ o : Obj, A.heap[r]? = some o ∧ o.isCells = false) : B.heap[k]? = some (.cells c t fr) :=
  (hg.block k (Array.getElem?_eq_some_iff.1 h).1 (fun e => by
    obtain ⟨o, ho, hc⟩ := hr k e.symm
    rw [h] at ho
    cases ho
    cases hc)).trans h
theorem RI.own {w : World} {S OB D : Nat} {pv kv : Value} {W H : Int} {f : Int × Int → Int} {pre : List (Int × Int)} {A B : World} {row : Option Nat} (h : RI w S OB D pv kv W H f pre A) (hg : A.grownBy B row)
    (hr : ∀ r, row = some r → S ≤ r ∧ ∃ o : Obj, A.heap[r]? = some o ∧ o.isCells = false) (hS : S ≤ A.heap.size) : RI w S OB D pv kv W H f pre B := by
  have hr' := fun r e => (hr r e).2
  obtain ⟨v, hv, hrow⟩ := h.ho
  refine ⟨cells_kept h.hp hg hr', cells_kept h.hk hg hr', cells_kept h.hr hg hr', ⟨v, cells_kept hv hg hr', ?_⟩, h.hb.grown hg hS (fun k e => (hr k e).1)⟩
  refine hrow.kept hg ?_
  rcases hrow.2 with ⟨rfl, _⟩ | ⟨g, cap, cur, rfl, _, hgb, _⟩
  · exact .inl rfl
  · refine .inr fun e' => ?_
    obtain ⟨o, ho, hc⟩ := hr' g (by simpa [Value.ownBlock] using e'.symm)
    rw [hgb] at ho
    cases ho
    cases hc
theorem RI.grew {w : World} {S OB D : Nat} {pv kv : Value} {W H : Int} {f : Int × Int → Int} {pre : List (Int × Int)} {A B : World} (h : RI w S OB D pv kv W H f pre A) (hg : Grew A B) (hS : S ≤ A.heap.size) : RI w S OB D pv kv W H f pre B :=
  h.own (hg.gb none) (fun r e => by cases e) hS
/-- One number more. -/
theorem RI.app {w : World} {S OB D : Nat} {pv kv : Value} {W H : Int} {f : Int × Int → Int} {pre : List (Int × Int)} {A W1 : World} {x : Int × Int} {v v' : Value} (h : RI w S OB D pv kv W H f pre A) (hv : A.heap[OB]? = some (.cells #[.int .i64 W, .int .i64 H, v] 27)) (hrow : A.ownsRow D 3 1 v pre.length (pre.map fun p => Value.int .i64 (f p)))
    (hS : S ≤ A.heap.size) (hSD : S + 4 ≤ D) (hOD : OB < D) (hSO : S + 4 ≤ OB) (ob : Obj) (hown : W1.ownsRow D 3 1 v' (pre.length + 1) ((pre.map fun p => Value.int .i64 (f p)) ++ [Value.int .i64 (f x)])) (hgrow : (A.alloc ob).grownBy W1 v.ownBlock) :
    RI w S OB D pv kv W H f (pre ++ [x]) (W1.setCell ⟨OB, 2, none⟩ v') ∧ KeepsOthers A (W1.setCell ⟨OB, 2, none⟩ v') ∧ (∀ k, k < D → k ≠ OB → k < A.heap.size → (W1.setCell ⟨OB, 2, none⟩ v').heap[k]? = A.heap[k]?) ∧ W1.heap[OB]? = some (.cells #[.int .i64 W, .int .i64 H, v] 27) := by
  have hrb : ∀ k, v.ownBlock = some k → D ≤ k := fun k hk => (hrow.lt k hk).1
  have far1 : ∀ k o, k < D → A.heap[k]? = some o → W1.heap[k]? = some o := fun k o hk ho => by
    have hlt := (Array.getElem?_eq_some_iff.1 ho).1
    rw [hgrow.block k (by simp; omega) (fun e => by have := hrb k e.symm; omega), Below.heap_alloc _ _ _ hlt]
    exact ho
  have far : ∀ k o, k < D → k ≠ OB → A.heap[k]? = some o → (W1.setCell ⟨OB, 2, none⟩ v').heap[k]? = some o := fun k o hk hne ho => by
    rw [Below.heap_setCell _ _ _ _ hne]
    exact far1 k o hk ho
  have hO1 := far1 OB _ hOD hv
  have hO2 : (W1.setCell ⟨OB, 2, none⟩ v').heap[OB]? = some (.cells #[.int .i64 W, .int .i64 H, v'] 27) := by
    obtain ⟨hlt, hk⟩ := Array.getElem?_eq_some_iff.1 hO1
    show (W1.heap.modify OB _)[OB]? = _
    rw [Array.getElem?_eq_getElem (by rw [Array.size_modify]; exact hlt), Array.getElem_modify_self, hk]
    rfl
  have hne' : v'.ownBlock = none ∨ v'.ownBlock ≠ some OB := by
    cases hq : v'.ownBlock with
    | none => exact .inl rfl
    | some k => exact .inr fun e => by cases e; have := (hown.lt OB hq).1; omega
  refine ⟨⟨far _ _ (by omega) (by omega) h.hp, far _ _ (by omega) (by omega) h.hk, far _ _ (by omega) (by omega) h.hr, ⟨v', hO2, ?_⟩, ?_⟩, ?_, fun k hk hne hl => (far k _ hk hne (Array.getElem?_eq_getElem hl)).trans (Array.getElem?_eq_getElem hl).symm, hO1⟩
  · have := hown.kept (gb_setCell W1 OB 2 v') hne'
    simpa using this
  · exact ((h.hb.alloc hS ob).grown hgrow (by simp; omega) (fun k e => by have := hrb k e; omega)).setCell (p := ⟨OB, 2, none⟩) (by show S ≤ OB; omega) v'
  · refine ((KeepsOthers.alloc A ob).trans (KeepsOthers.of_grownBy hgrow fun j o ej hj => ?_)).trans (KeepsOthers.setCell _ _ _)
    rcases (hrow.alloc ob).2 with ⟨rfl, _⟩ | ⟨g, cap, cur, rfl, _, hgb, _⟩
    · simp [Value.ownBlock] at ej
    · obtain rfl : g = j := by simpa [Value.ownBlock] using ej
      rw [hgb] at hj; cases hj; rfl
end Go.Proofs.Ythfmmkgdheemhaa
