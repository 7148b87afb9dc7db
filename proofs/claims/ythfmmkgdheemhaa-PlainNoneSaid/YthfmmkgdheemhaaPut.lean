import Derived.Test.YthfmmkgdheemhaaNew
namespace Go.Proofs.Ythfmmkgdheemhaa
open Go.RowKit
open Go

theorem PxAt.far {V : World} {B i : Nat} {p : Px} (h : PxAt V B i p) (o : Nat) (v : Value) (hne : ¬ (i * 6 ≤ o ∧ o < i * 6 + 6)) : PxAt (V.setCell ⟨B, o, none⟩ v) B i p := by
  obtain ⟨h0, h1, h2, h3, h4, h5⟩ := h
  have k : ∀ j, j < 6 → (⟨B, o, none⟩ : Addr) ≠ ⟨B, i * 6 + j, none⟩ := by
    intro j hj he
    injection he with _ he
    omega
  exact ⟨(World.cell?_setCell_other _ _ _ _ (k 0 (by omega))).trans h0, (World.cell?_setCell_other _ _ _ _ (k 1 (by omega))).trans h1, (World.cell?_setCell_other _ _ _ _ (k 2 (by omega))).trans h2,
    (World.cell?_setCell_other _ _ _ _ (k 3 (by omega))).trans h3, (World.cell?_setCell_other _ _ _ _ (k 4 (by omega))).trans h4, (World.cell?_setCell_other _ _ _ _ (k 5 (by omega))).trans h5⟩
theorem PxAt.setZ {V : World} {B i : Nat} {p : Px} (h : PxAt V B i p) (z : Int) : PxAt (V.setCell ⟨B, i * 6 + 4, none⟩ (.int .i64 z)) B i { p with z := z } := by
  obtain ⟨h0, h1, h2, h3, h4, h5⟩ := h
  have k : ∀ j, j ≠ 4 → (⟨B, i * 6 + 4, none⟩ : Addr) ≠ ⟨B, i * 6 + j, none⟩ := by
    intro j hj he
    injection he with _ he
    omega
  exact ⟨(World.cell?_setCell_other _ _ _ _ (k 0 (by omega))).trans h0, (World.cell?_setCell_other _ _ _ _ (k 1 (by omega))).trans h1, (World.cell?_setCell_other _ _ _ _ (k 2 (by omega))).trans h2,
    (World.cell?_setCell_other _ _ _ _ (k 3 (by omega))).trans h3, World.cell?_setCell_same _ _ _ h4, (World.cell?_setCell_other _ _ _ _ (k 5 (by omega))).trans h5⟩
theorem Pic.setZ {V : World} {pb B w h cap : Nat} {pix : Nat → Px} (p : Pic V pb B w h cap pix) (k : Nat) (hk : k < w * h) (z : Int) :
    Pic (V.setCell ⟨B, k * 6 + 4, none⟩ (.int .i64 z)) pb B w h cap (fun i => if i = k then { pix i with z := z } else pix i) := by
  have hb : ∀ j, (⟨B, k * 6 + 4, none⟩ : Addr) ≠ ⟨pb, j, none⟩ := by
    intro j he
    injection he with he
    exact p.ne he.symm
  refine ⟨(World.cell?_setCell_other _ _ _ _ (hb 0)).trans p.c0, (World.cell?_setCell_other _ _ _ _ (hb 1)).trans p.c1, (World.cell?_setCell_other _ _ _ _ (hb 2)).trans p.c2, p.ne, by simpa using p.lt, by simpa using p.ltB, fun i hi => ?_, fun j => by simpa using p.fr j⟩
  show PxAt _ B i (if i = k then { pix i with z := z } else pix i)
  by_cases e : i = k
  · rw [if_pos e]
    subst e
    exact (p.px i hi).setZ z
  · rw [if_neg e]
    exact (p.px i hi).far _ _ (by omega)
end Go.Proofs.Ythfmmkgdheemhaa
