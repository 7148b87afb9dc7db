/- The book that audit.Wrong keeps: its two maps, its cells; the contracts of (*book).now, draw, steal. -/
import Derived.Test.YtjknkmidcmiefaaEv
import Derived.Test.YtjknkmidcmiefaaMp
import Derived.Lib.SmallJoins
import Derived.MapViews
import Derived.Deep.RegionHeld3
namespace Go.Proofs.Ytjknkmidcmiefaa
open Go.RowKit
open Go.Maps (Keyed)

def I64 (a : Int) : Prop := -9223372036854775808 ≤ a ∧ a ≤ 9223372036854775807

theorem Try.laidOut : laidOutB Try.prog = true := by kernel_rfl
theorem Try.cells54 : Try.prog.cellsOf 54 = 2 := by kernel_rfl
theorem wide54 : (match Try.prog.underlying 54 with | some (.array _ _) | some (.struct _) => true | _ => false) = true := by kernel_rfl
theorem key54 : Try.prog.keyTypeAt (Try.prog.types.size + 1) 54 = true := by kernel_rfl
theorem formed54 (a b : Int) : (Value.agg #[.int .i64 a, .int .i64 b]).formed Try.prog 54 = true := by kernel_rfl
theorem law54 : Keyed Try.prog 54 := .of_law (deep_law_laid Try.laidOut (m := 2) (by omega) (of_decide_eq_true (by kernel_rfl)) (by kernel_rfl) wide54)
theorem law3 : Keyed Try.prog 3 := Maps.int_keyed Try.underlying3

theorem keyOf54 (a b : Int) (ha : I64 a) (hb : I64 b) : ∃ l, keyOf Try.prog 54 (.agg #[.int .i64 a, .int .i64 b]) = some l := by
  have wa := WalkArith.wf_i64 ha
  have wb := WalkArith.wf_i64 hb
  have t := Joins.shut_agg2 (enc := fun _ => ()) (w := { heap := #[], tape := fun _ _ => 0, drawn := 0, os := default, output := default }) (base := 0) (spare := fun _ => true) (held := true)
    (y0 := (.lit (.int .i64 a), [])) (y1 := (.lit (.int .i64 b), [])) (v0 := .int .i64 a) (v1 := .int .i64 b) Try.underlying54 (by kernel_rfl) Try.cells54 ⟨1, by simp [DataW.trod, Try.underlying3, wa]⟩ ⟨1, by simp [DataW.trod, Try.underlying3, wb]⟩
  exact ⟨_, (keyOf_asKey key54 wide54 (formed54 a b) t).1⟩

def F3 : KeyFam Try.prog 3 Int where
  enc a := .int .i64 a
  ok := I64
  key a ha := ⟨_, Maps.keyOf_int_mk Try.underlying3 (WalkArith.wf_i64 ha)⟩
  inj a b _ _ h := by injection h

def F54 : KeyFam Try.prog 54 (Int × Int) where
  enc a := .agg #[.int .i64 a.1, .int .i64 a.2]
  ok a := I64 a.1 ∧ I64 a.2
  key a ha := keyOf54 a.1 a.2 ha.1 ha.2
  inj a b _ _ h := by
    obtain ⟨a1, a2⟩ := a
    obtain ⟨b1, b2⟩ := b
    simp at h
    rw [h.1, h.2]

end Go.Proofs.Ytjknkmidcmiefaa
