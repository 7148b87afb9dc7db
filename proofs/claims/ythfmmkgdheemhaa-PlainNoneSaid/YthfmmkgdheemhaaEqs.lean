import Derived.Test.YthfmmkgdheemhaaTint
import Derived.Laws.StructEq
namespace Go.Proofs.Ythfmmkgdheemhaa
open Go.RowKit
open Go

theorem colFields : Try.prog.underlying 32 = some (.struct (Try.prog.fieldsOf 32)) := by kernel_rfl
theorem colHeld : Try.prog.stoodInHeld 32 = false := by kernel_rfl
theorem colGuard : Try.prog.eqGuardType Try.prog.depth 32 = false := by kernel_rfl
theorem run_eql_col (r g b a r' g' b' a' : Int) (w : World) : (binOp .eql 32 (.agg #[.int .i64 r, .int .i64 g, .int .i64 b, .int .i64 a]) (.agg #[.int .i64 r', .int .i64 g', .int .i64 b', .int .i64 a'])).run Try.prog w = .ok (.bool (r == r' && (g == g' && (b == b' && a == a')))) w := by
  rw [run_eql_struct, run_equalIn_agg _ _ _ _ _ colFields colHeld]
  simp [Program.fieldsOf, Try.underlying32, go_sem]
  repeat' split
  all_goals simp_all
end Go.Proofs.Ythfmmkgdheemhaa
