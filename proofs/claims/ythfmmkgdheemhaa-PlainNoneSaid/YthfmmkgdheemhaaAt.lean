import Derived.Test.YthfmmkgdheemhaaPack
namespace Go.Proofs.Ythfmmkgdheemhaa
open Go.RowKit
open Go

/-- The six cells of a pixel lie at place i of row B. -/
def PxAt (V : World) (B i : Nat) (p : Px) : Prop :=
  V.cell? ⟨B, i * 6, none⟩ = some (.int .i64 p.r) ∧ V.cell? ⟨B, i * 6 + 1, none⟩ = some (.int .i64 p.g) ∧ V.cell? ⟨B, i * 6 + 2, none⟩ = some (.int .i64 p.b) ∧
  V.cell? ⟨B, i * 6 + 3, none⟩ = some (.int .i64 p.a) ∧ V.cell? ⟨B, i * 6 + 4, none⟩ = some (.int .i64 p.z) ∧ V.cell? ⟨B, i * 6 + 5, none⟩ = some (.int .i64 p.s)
/-- A picture: its block pb, its row B of w * h pixels. -/
structure Pic (V : World) (pb B w h cap : Nat) (pix : Nat → Px) : Prop where
  c0 : V.cell? ⟨pb, 0, none⟩ = some (.int .i64 w)
  c1 : V.cell? ⟨pb, 1, none⟩ = some (.int .i64 h)
  c2 : V.cell? ⟨pb, 2, none⟩ = some (.slice (some ⟨B, 0, none⟩) (w * h) cap)
  ne : pb ≠ B
  lt : pb < V.heap.size
  ltB : B < V.heap.size
  px : ∀ i, i < w * h → PxAt V B i (pix i)
  fr : ∀ j, V.frozen? ⟨B, j, none⟩ = false
theorem PxAt.grew {V W : World} {B i : Nat} {p : Px} (h : PxAt V B i p) (hg : Grew V W) : PxAt W B i p :=
  ⟨hg.cell h.1, hg.cell h.2.1, hg.cell h.2.2.1, hg.cell h.2.2.2.1, hg.cell h.2.2.2.2.1, hg.cell h.2.2.2.2.2⟩
theorem Grew.frozen {V W : World} (hg : Grew V W) (a : Addr) (h : a.block < V.heap.size) : W.frozen? a = V.frozen? a := by
  obtain ⟨n, os, rfl⟩ := hg.ex
  exact Sort.frozen?_grow (V.drewN n) os a h
theorem Pic.grew {V W : World} {pb B w h cap : Nat} {pix : Nat → Px} (p : Pic V pb B w h cap pix) (hg : Grew V W) : Pic W pb B w h cap pix :=
  ⟨hg.cell p.c0, hg.cell p.c1, hg.cell p.c2, p.ne, Nat.lt_of_lt_of_le p.lt hg.below.size, Nat.lt_of_lt_of_le p.ltB hg.below.size, fun i hi => (p.px i hi).grew hg, fun j => (hg.frozen _ p.ltB).trans (p.fr j)⟩

set_option maxHeartbeats 2000000 in
set_option maxRecDepth 100000 in
theorem at_out (w : World) (pb B wd ht cap : Nat) (pix : Nat → Px) (x y : Int) (hP : Pic w pb B wd ht cap pix) (ho : x < 0 ∨ (wd : Int) ≤ x ∨ y < 0 ∨ (ht : Int) ≤ y) :
    Calls Try.prog 5 #[.pointer (some ⟨pb, 0, none⟩), .int .i64 x, .int .i64 y] w fun e w' => e = .returned (.tuple #[noPx.val, .bool false]) ∧ Grew w w' := by
  have c0 := hP.c0
  have c1 := hP.c1
  have hlt := hP.lt
  have HO := Lib.hid ho
  clear hP ho
  go_enter Try.func5, Try.ntmps5
  go_wp2
  all_goals first
    | (refine bodyPost_ret (results_cell_row2 rfl _ _ w.heap.size 34 _ (0, 0) _ (by rfl) (heap_alloc_new _ _) Try.underlying34 rfl (by kernel_rfl)) rfl ?_
       exact ⟨rfl, (Grew.refl w).alloc _⟩)
    | (exfalso; have := HO.out; omega)
end Go.Proofs.Ythfmmkgdheemhaa
