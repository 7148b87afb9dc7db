import Derived.Test.YthfmmkgdheemhaaCheck1
namespace Go.Proofs.Ythfmmkgdheemhaa
open Go.RowKit
open Go

set_option maxHeartbeats 2000000 in
theorem new_bad (wd ht : Int) (hb : wd < 1 ∨ 256 < wd ∨ ht < 1 ∨ 256 < ht) (w : World) :
    Calls Try.prog 12 #[.int .i64 wd, .int .i64 ht] w fun e w' => e = .returned (.tuple #[.pointer none, .int .i64 3]) ∧ w = w' := by
  have hcase : wd < 1 ∨ (¬ wd < 1 ∧ 256 < wd) ∨ (¬ wd < 1 ∧ ¬ 256 < wd ∧ ht < 1) ∨ (¬ wd < 1 ∧ ¬ 256 < wd ∧ ¬ ht < 1 ∧ 256 < ht) := by omega
  clear hb
  rcases hcase with h1 | ⟨h1, h2⟩ | ⟨h1, h2, h3⟩ | ⟨h1, h2, h3, h4⟩
  all_goals
    go_enter Try.func12, Try.ntmps12
    go_wp2
    go_ret2
    exact ⟨rfl, rfl⟩
end Go.Proofs.Ythfmmkgdheemhaa
