import Derived.Test.YthfmmkgdheemhaaProg
import Derived.Below
import Derived.Shelf.SlSortCmp.QuietGrown
import Derived.Sort.Walk7
import Derived.Laws.Rows
import Derived.Laws.ResultCell
/-! 'Grew w w'': w, some draws on, some blocks laid behind it. -/
namespace Go.Proofs.Ythfmmkgdheemhaa
open Go Go.Sort Go.RowKit

def Grew (w w' : World) : Prop := ∃ p : GrownBy, w' = grow (w.drewN p.n) p.os
theorem Grew.refl (w : World) : Grew w w := ⟨⟨0, #[]⟩, by simp; rfl⟩
theorem Grew.drew {w w' : World} (h : Grew w w') : Grew w w'.drew := by
  obtain ⟨⟨n, os⟩, rfl⟩ := h
  exact ⟨⟨n + 1, os⟩, by show (grow (w.drewN n) os).drew = grow (w.drewN (n + 1)) os; rw [drew_grow]; rfl⟩
theorem Grew.drewN {w w' : World} (h : Grew w w') (k : Nat) : Grew w (w'.drewN k) := by
  obtain ⟨⟨n, os⟩, rfl⟩ := h
  exact ⟨⟨n + k, os⟩, by show grow ((w.drewN n).drewN k) os = grow (w.drewN (n + k)) os; rw [World.drewN_drewN]⟩
theorem Grew.alloc {w w' : World} (h : Grew w w') (o : Obj) : Grew w (w'.alloc o) := by
  obtain ⟨⟨n, os⟩, rfl⟩ := h
  exact ⟨⟨n, os ++ #[o]⟩, by show (grow (w.drewN n) os).alloc o = grow (w.drewN n) (os ++ #[o]); rw [alloc_eq_grow, grow_grow]⟩
theorem Grew.trans {a b c : World} (h : Grew a b) (k : Grew b c) : Grew a c := by
  obtain ⟨⟨n, os⟩, rfl⟩ := h
  obtain ⟨⟨m, os'⟩, rfl⟩ := k
  exact ⟨⟨n + m, os ++ os'⟩, by show grow (grow ((a.drewN n).drewN m) os) os' = _; rw [grow_grow, World.drewN_drewN]⟩
theorem Grew.ex {w w' : World} (h : Grew w w') : ∃ n os, w' = grow (w.drewN n) os := by
  obtain ⟨⟨n, os⟩, rfl⟩ := h
  exact ⟨n, os, rfl⟩
theorem Grew.of {w : World} (n : Nat) (os : Array Obj) : Grew w (grow (w.drewN n) os) := ⟨⟨n, os⟩, rfl⟩
theorem Grew.below {w w' : World} (h : Grew w w') : Below w.heap.size w w' := by
  obtain ⟨⟨n, os⟩, rfl⟩ := h
  exact ⟨rfl, rfl, rfl, by simp, fun k hk => by
    show (grow (w.drewN n) os).heap[k]? = w.heap[k]?
    rw [heap_grow_old _ _ (by exact hk)]; try rfl⟩
theorem Grew.cell {w w' : World} (h : Grew w w') {a : Addr} {v : Value} (hc : w.cell? a = some v) : w'.cell? a = some v :=
  (h.below.cell (World.block_lt_of_cell? w a hc)).trans hc
/-- A callee's contract, met in a world of the class. -/
theorem Grew.call {P : Program} {f : FuncId} {args : Array Value} {w : World} {n : Nat} {os : Array Obj} {v : Value}
    (h : Calls P f args (grow (w.drewN n) os) fun e w' => e = .returned v ∧ Grew (grow (w.drewN n) os) w') : Calls P f args (grow (w.drewN n) os) fun e w'' => e = .returned v ∧ ∃ p : GrownBy, w'' = grow (w.drewN p.n) p.os :=
  h.mono fun _ _ ⟨he, hg⟩ => ⟨he, Grew.trans (⟨⟨n, os⟩, rfl⟩ : Grew w (grow (w.drewN n) os)) hg⟩

/-! A grown world, walked on: what is written lies in a block that was there. -/
theorem grow_cell (X : World) (n : Nat) (os : Array Obj) (b j : Nat) (h : b < X.heap.size) : (grow (X.drewN n) os).cell? ⟨b, j, none⟩ = X.cell? ⟨b, j, none⟩ := cell?_grow (X.drewN n) os _ h
theorem grow_frozen (X : World) (n : Nat) (os : Array Obj) (b j : Nat) (h : b < X.heap.size) : (grow (X.drewN n) os).frozen? ⟨b, j, none⟩ = X.frozen? ⟨b, j, none⟩ := frozen?_grow (X.drewN n) os _ h
theorem grow_setCell (X : World) (n : Nat) (os : Array Obj) (b j : Nat) (v : Value) (h : b < X.heap.size) : (grow (X.drewN n) os).setCell ⟨b, j, none⟩ v = grow ((X.setCell ⟨b, j, none⟩ v).drewN n) os := by
  rw [setCell_grow _ _ _ _ _ (by exact h)]; rfl

theorem grow_top3 (w : World) (A B C : Obj) (n : Nat) (os : Array Obj) : (grow ((((w.alloc A).alloc B).alloc C).drewN n) os).heap[w.heap.size + 1 + 1]? = some C := by
  rw [heap_grow_old _ _ (by simp), World.heap_drewN]
  have := heap_alloc_new ((w.alloc A).alloc B) C
  simp only [World.size_alloc] at this
  exact this
theorem grow_top2 (w : World) (A B : Obj) (n : Nat) (os : Array Obj) : (grow (((w.alloc A).alloc B).drewN n) os).heap[w.heap.size + 1]? = some B := by
  rw [heap_grow_old _ _ (by simp), World.heap_drewN]
  have := heap_alloc_new (w.alloc A) B
  simp only [World.size_alloc] at this
  exact this
theorem results_cell_row2 {P : Program} {fn : Func} {p u : Tmp} {ty : TypeId} (h : fn.results = #[.cell p ty, .tmp u]) (tmps : Array Value) (w : World) (g : Nat) (t : TypeId) (cs : Array Value) (fr : Nat × Nat) (d : TypeDesc)
    (hp : tmps.getD p undef = .pointer (some ⟨g, 0, none⟩)) (hg : w.heap[g]? = some (.cells cs t fr))
    (hu : P.underlying ty = some d) (hd : (match d with | .struct _ | .array _ _ => true | _ => false) = true) (hi : (P.info? ty).map (·.size) = some cs.size) :
    (results fn tmps).run P w = .ok (.tuple #[.agg cs, tmps.getD u undef]) w := by
  rw [results_cell_tmp h, hp]
  simp [asAddr, run_loadVar_row w g t ty cs fr d hg hu hd hi, Result.andThen]
end Go.Proofs.Ythfmmkgdheemhaa
