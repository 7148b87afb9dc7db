import Derived.Test.YthfmmkgdheemhaaAlike
import Derived.Laws.AppendOwn
namespace Go.Proofs.Ythfmmkgdheemhaa
open Go.RowKit
open Go

/-! The frame of what writes block B alone: World.grownBy .. (some B). -/
theorem gb_refl (w : World) (r : Option Nat) : w.grownBy w r := ⟨rfl, rfl, rfl, Nat.le_refl _, fun _ _ _ => rfl⟩
theorem gb_trans {a b c : World} {r : Option Nat} (h : a.grownBy b r) (k : b.grownBy c r) : a.grownBy c r :=
  ⟨k.os.trans h.os, k.tape.trans h.tape, k.output.trans h.output, Nat.le_trans h.size k.size, fun i hi hn => (k.block i (Nat.lt_of_lt_of_le hi h.size) hn).trans (h.block i hi hn)⟩
theorem Grew.gb {a b : World} (h : Grew a b) (r : Option Nat) : a.grownBy b r :=
  ⟨h.below.os, h.below.tape, h.below.output, h.below.size, fun k hk _ => h.below.block k hk⟩
theorem gb_setCell (W : World) (B o : Nat) (v : Value) : W.grownBy (W.setCell ⟨B, o, none⟩ v) (some B) :=
  ⟨rfl, rfl, rfl, by simp, fun k _ hk => Below.heap_setCell _ _ _ k (fun e => hk (by rw [e]))⟩
theorem Below.gb {D B : Nat} {a w w' : World} (h : Below D a w) (hg : w.grownBy w' (some B)) (hD : D ≤ w.heap.size) (hB : D ≤ B) : Below D a w' :=
  h.grown hg hD (fun k e => by cases e; exact hB)
theorem Pic.far {V W : World} {pb B B' w h cap : Nat} {pix : Nat → Px} (p : Pic V pb B w h cap pix) (hg : V.grownBy W (some B')) (h1 : pb ≠ B') (h2 : B ≠ B') : Pic W pb B w h cap pix := by
  have cc : ∀ b o v, b ≠ B' → V.cell? ⟨b, o, none⟩ = some v → W.cell? ⟨b, o, none⟩ = some v := fun b o v hb hc => hg.cell hc (fun e => hb (by cases e; rfl))
  have cf : ∀ o, W.frozen? ⟨B, o, none⟩ = V.frozen? ⟨B, o, none⟩ := fun o => World.frozen?_of_block (hg.block B p.ltB (fun e => h2 (by cases e; rfl)))
  refine ⟨cc _ _ _ h1 p.c0, cc _ _ _ h1 p.c1, cc _ _ _ h1 p.c2, p.ne, Nat.lt_of_lt_of_le p.lt hg.size, Nat.lt_of_lt_of_le p.ltB hg.size, fun i hi => ?_, fun j => (cf j).trans (p.fr j)⟩
  obtain ⟨h0, h1', h2', h3, h4, h5⟩ := p.px i hi
  exact ⟨cc _ _ _ h2 h0, cc _ _ _ h2 h1', cc _ _ _ h2 h2', cc _ _ _ h2 h3, cc _ _ _ h2 h4, cc _ _ _ h2 h5⟩
end Go.Proofs.Ythfmmkgdheemhaa
