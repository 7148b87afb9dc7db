-- PRINTED by print.py (a twelfth state) out of the translation. Not trusted: Lean checks it.
import Derived.Test.YtjknkmidcmiefaaDoorProg
import Derived.Below
import Derived.Deep.Draws
import Derived.Deep.AppendLies
import Derived.Maps.AppendAt
import Derived.OwnWalk
import Derived.Laws.BytesArg
import Derived.Laws.MakeOwn
import Derived.Laws.OwnMore
import Derived.Deep.OwnRows
import Derived.Tactics
import Derived.Lib.ConvBytes
import Derived.Laws.Slices
import Derived.WalkKit
import Derived.KernelRfl
import Derived.RowKit3
import Derived.Deep.LoopGhost
import Derived.Deep.QuietTactic
import Derived.BigQuiet
import Derived.WideLaws
import Derived.Deep.DeepCutAuto
import Derived.Deep.CutBlock
import Derived.Deep.RegionHeld3
import Derived.Laws.Rows
import Derived.Lib.AppendStr
import Derived.ArgAppend
import Derived.Laws.IdiomCopy
import Derived.OrdersHeld
import Derived.Laws.BitsLemmas
import Derived.RowKit
import Derived.Test.YtjknkmidcmiefaaDoorWWords
import Derived.Test.YtjknkmidcmiefaaDoorWLast
import Derived.Test.YtjknkmidcmiefaaDoorWTab
import Derived.Test.YtjknkmidcmiefaaDoorWFour
import Derived.Test.YtjknkmidcmiefaaDoorWQPut
import Derived.Test.YtjknkmidcmiefaaDoorWApart
import Derived.Test.YtjknkmidcmiefaaDoorWArr
import Derived.Test.YtjknkmidcmiefaaDoorWZeros
import Derived.Test.YtjknkmidcmiefaaDoorWFoot
import Derived.Test.YtjknkmidcmiefaaDoorWKept
import Derived.Test.YtjknkmidcmiefaaDoorWShare
import Derived.Test.YtjknkmidcmiefaaDoorWN
import Derived.Test.YtjknkmidcmiefaaDoorWFootNe
import Derived.Test.YtjknkmidcmiefaaDoorWAt
import Derived.Test.YtjknkmidcmiefaaDoorWEqStruct
import Derived.Test.YtjknkmidcmiefaaDoorWRepsOne
import Derived.Test.YtjknkmidcmiefaaDoorWInv
import Derived.Test.YtjknkmidcmiefaaDoorWInvWords
import Derived.Test.YtjknkmidcmiefaaDoorWGuard
import Derived.Test.YtjknkmidcmiefaaDoorWNEv
import Derived.Test.YtjknkmidcmiefaaDoorWMore
namespace Go.Proofs.YtjknkmidcmiefaaDoor.PN
open Go.RowKit Go.Proofs.YtjknkmidcmiefaaDoorW.PrintWords Go.Proofs.YtjknkmidcmiefaaDoorW.PrintLast Go.Proofs.YtjknkmidcmiefaaDoorW.PrintMore
attribute [local go_sem] max2_int min2_int max_two min_two max_three min_three max_four min_four   -- for this text's walks alone
set_option linter.unusedVariables false
set_option linter.unusedSimpArgs false



def errW : Option Int → Value
  | none => .nilIface
  | some c => .iface 58 (.int .i64 c)
theorem errW_none : errW none = .nilIface := rfl
theorem errW_some (c : Int) : errW (some c) = .iface 58 (.int .i64 c) := rfl

theorem info5 : (Tryd.prog.info? 5).map (fun i => (i.zero, i.size, i.bytes)) = some (some (.int .u8 0), 1, 1) := by kernel_rfl
-- the values' own types

end Go.Proofs.YtjknkmidcmiefaaDoor.PN
