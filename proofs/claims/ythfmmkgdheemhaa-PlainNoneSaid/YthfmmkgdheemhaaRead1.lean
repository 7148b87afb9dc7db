import Derived.Test.YthfmmkgdheemhaaRead0
namespace Go.Proofs.Ythfmmkgdheemhaa
open Go Go.RowKit

set_option maxHeartbeats 2000000 in
set_option maxRecDepth 100000 in
theorem do_nil (c : Array Value) (w : World) :
    Calls Try.prog 6 #[.pointer none, .agg c] w fun e w' => e = .returned (.int .i64 1) ∧ Grew w w' := by
  go_enter Try.func6, Try.ntmps6
  go_wp2
  go_ret
  exact ⟨rfl, (Grew.refl w).alloc _⟩

/-- Does a rectangle lie in a picture? -/
def inPic (wd ht : Nat) (x0 y0 x1 y1 : Int) : Prop := 0 ≤ x0 ∧ x0 ≤ x1 ∧ x1 ≤ wd ∧ 0 ≤ y0 ∧ y0 ≤ y1 ∧ y1 ≤ ht
end Go.Proofs.Ythfmmkgdheemhaa
