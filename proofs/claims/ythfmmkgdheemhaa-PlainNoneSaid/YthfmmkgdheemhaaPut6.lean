import Derived.Test.YthfmmkgdheemhaaFar
namespace Go.Proofs.Ythfmmkgdheemhaa
open Go.RowKit
open Go

/-- the world behind the store of a whole pixel at place i of row B -/
def put6 (V : World) (B i : Nat) (p : Px) : World :=
  (((((V.setCell ⟨B, i * 6, none⟩ (.int .i64 p.r)).setCell ⟨B, i * 6 + 1, none⟩ (.int .i64 p.g)).setCell ⟨B, i * 6 + 2, none⟩ (.int .i64 p.b)).setCell ⟨B, i * 6 + 3, none⟩ (.int .i64 p.a)).setCell ⟨B, i * 6 + 4, none⟩ (.int .i64 p.z)).setCell ⟨B, i * 6 + 5, none⟩ (.int .i64 p.s)
theorem put6_gb (V : World) (B i : Nat) (p : Px) : V.grownBy (put6 V B i p) (some B) :=
  gb_trans (gb_trans (gb_trans (gb_trans (gb_trans (gb_setCell V B _ _) (gb_setCell _ B _ _)) (gb_setCell _ B _ _)) (gb_setCell _ B _ _)) (gb_setCell _ B _ _)) (gb_setCell _ B _ _)
theorem cell_put6 (V : World) (B i o : Nat) (p : Px) (ho : ¬ (i * 6 ≤ o ∧ o < i * 6 + 6)) : (put6 V B i p).cell? ⟨B, o, none⟩ = V.cell? ⟨B, o, none⟩ := by
  have k : ∀ j, j < 6 → (⟨B, i * 6 + j, none⟩ : Addr) ≠ ⟨B, o, none⟩ := by
    intro j hj he
    injection he with _ he
    omega
  unfold put6
  rw [World.cell?_setCell_other _ _ _ _ (k 5 (by omega)), World.cell?_setCell_other _ _ _ _ (k 4 (by omega)), World.cell?_setCell_other _ _ _ _ (k 3 (by omega)), World.cell?_setCell_other _ _ _ _ (k 2 (by omega)), World.cell?_setCell_other _ _ _ _ (k 1 (by omega)), World.cell?_setCell_other _ _ _ _ (show (⟨B, i * 6, none⟩ : Addr) ≠ ⟨B, o, none⟩ from k 0 (by omega))]
theorem px_put6 {V : World} {B i : Nat} {q : Px} (h : PxAt V B i q) (p : Px) : PxAt (put6 V B i p) B i p := by
  obtain ⟨h0, h1, h2, h3, h4, h5⟩ := h
  have k : ∀ j l, j ≠ l → (⟨B, i * 6 + j, none⟩ : Addr) ≠ ⟨B, i * 6 + l, none⟩ := by
    intro j l hj he
    injection he with _ he
    omega
  have o := fun (W : World) (j l : Nat) (v : Value) (hj : j ≠ l) => World.cell?_setCell_other W _ _ v (k j l hj)
  refine ⟨?_, ?_, ?_, ?_, ?_, ?_⟩
  · exact (o _ 5 0 _ (by omega)).trans ((o _ 4 0 _ (by omega)).trans ((o _ 3 0 _ (by omega)).trans ((o _ 2 0 _ (by omega)).trans ((o _ 1 0 _ (by omega)).trans (World.cell?_setCell_same _ _ _ h0)))))
  · exact (o _ 5 1 _ (by omega)).trans ((o _ 4 1 _ (by omega)).trans ((o _ 3 1 _ (by omega)).trans ((o _ 2 1 _ (by omega)).trans (World.cell?_setCell_same _ _ _ ((o _ 0 1 _ (by omega)).trans h1)))))
  · exact (o _ 5 2 _ (by omega)).trans ((o _ 4 2 _ (by omega)).trans ((o _ 3 2 _ (by omega)).trans (World.cell?_setCell_same _ _ _ ((o _ 1 2 _ (by omega)).trans ((o _ 0 2 _ (by omega)).trans h2)))))
  · exact (o _ 5 3 _ (by omega)).trans ((o _ 4 3 _ (by omega)).trans (World.cell?_setCell_same _ _ _ ((o _ 2 3 _ (by omega)).trans ((o _ 1 3 _ (by omega)).trans ((o _ 0 3 _ (by omega)).trans h3)))))
  · exact (o _ 5 4 _ (by omega)).trans (World.cell?_setCell_same _ _ _ ((o _ 3 4 _ (by omega)).trans ((o _ 2 4 _ (by omega)).trans ((o _ 1 4 _ (by omega)).trans ((o _ 0 4 _ (by omega)).trans h4)))))
  · exact World.cell?_setCell_same _ _ _ ((o _ 4 5 _ (by omega)).trans ((o _ 3 5 _ (by omega)).trans ((o _ 2 5 _ (by omega)).trans ((o _ 1 5 _ (by omega)).trans ((o _ 0 5 _ (by omega)).trans h5)))))
theorem Pic.put {V : World} {pb B w h cap : Nat} {pix : Nat → Px} (p : Pic V pb B w h cap pix) (k : Nat) (hk : k < w * h) (q : Px) :
    Pic (put6 V B k q) pb B w h cap (fun i => if i = k then q else pix i) := by
  have hg := put6_gb V B k q
  have cc : ∀ o v, V.cell? ⟨pb, o, none⟩ = some v → (put6 V B k q).cell? ⟨pb, o, none⟩ = some v := fun o v hc => hg.cell hc (fun e => p.ne (by cases e; rfl))
  refine ⟨cc _ _ p.c0, cc _ _ p.c1, cc _ _ p.c2, p.ne, Nat.lt_of_lt_of_le p.lt hg.size, Nat.lt_of_lt_of_le p.ltB hg.size, fun i hi => ?_, fun j => ?_⟩
  · show PxAt _ B i (if i = k then q else pix i)
    by_cases e : i = k
    · rw [if_pos e]
      subst e
      exact px_put6 (p.px i hi) q
    · rw [if_neg e]
      obtain ⟨h0, h1, h2, h3, h4, h5⟩ := p.px i hi
      exact ⟨(cell_put6 _ _ _ _ _ (by omega)).trans h0, (cell_put6 _ _ _ _ _ (by omega)).trans h1, (cell_put6 _ _ _ _ _ (by omega)).trans h2, (cell_put6 _ _ _ _ _ (by omega)).trans h3, (cell_put6 _ _ _ _ _ (by omega)).trans h4, (cell_put6 _ _ _ _ _ (by omega)).trans h5⟩
  · unfold put6
    simpa using p.fr j
end Go.Proofs.Ythfmmkgdheemhaa
