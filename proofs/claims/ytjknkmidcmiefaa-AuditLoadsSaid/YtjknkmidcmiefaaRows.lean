/-
  No cell of these rows narrows 'for every input' (looked for: loops, veiled, ifaces, maps, wideKeys, modest, calm, conditions, laid).
  DERIVED. THE GIVEN ROWS OF THIS SEAT. 2 by the template 'for every input the law returns true; each argument reads behind the call as it read before'; 0 by the template 'total and deterministic' (their statements: YtjknkmidcmiefaaTotals.lean).
  GIVEN WITH THE SEED: the statements are not yours to turn. If you find one false, say at which input.
  Laid BY PROGRAM, IN A SANDBOX (cutbox-rows.mjs): the forced cells as the released guide's own fill.sh prints them over the translation 41be05ab3f375915… (all of the seat's roots in one cut). By AI agents, Wed Nov 11 2026. No macro, syntax, notation, axiom, sorry.
-/
import Derived.Test.YtjknkmidcmiefaaChecked
import GoSem.Claim
import GoSem.ClaimJoined
import GoSem.ClaimMapViews
import Derived.JoinedTies
import Derived.KernelRfl
namespace Go.Proofs.Ytjknkmidcmiefaa
/- THE CELL 'sum', in the pinned program and in every row, IS THE sha256 OF THE DUMP (.gsa) THAT YtjknkmidcmiefaaProg.lean LOADS. Nothing in Lean hashes anything: it is a label: what it is worth is what the hold of that sum in a sandbox is worth. -/
noncomputable def Try.pinned : Pinned := { name := "ytjknkmidcmiefaa", sum := "41be05ab3f375915d2f15ee0ee4f9127f54e2429d5e7c68fe6edb465bc276688", checked := Try.checked }
namespace Rows
def none {H : Type} : Left H := { results := [], args := [] }

/-- 'temperalaw40.AuditWrong': WHATEVER THE INPUT: true; the input reads as it did. -/
def auditWrongSpec : ChangeSpec := { name := "auditWrong", fn := fun _ => fun
  | [d1, d2, d3] => { results := [.lit (.bool true)], args := [d1, d2, d3] }
  | _ => none }
def auditWrongRow : OpenClaim := { program := "ytjknkmidcmiefaa", sum := "41be05ab3f375915d2f15ee0ee4f9127f54e2429d5e7c68fe6edb465bc276688", func := "tempera/temperalaw40.AuditWrong", spec := "auditWrong", plainKeys := false, apart := false }
def AuditWrongSaid : Prop := auditWrongRow.holds Try.pinned (OpenSpec.ofChange auditWrongSpec)

/-- ITS FALSE NEIGHBOUR: 'it returns false'. Refute it at one input. -/
def auditWrongWrong : ChangeSpec := { name := "auditWrong", fn := fun _ => fun
  | [d1, d2, d3] => { results := [.lit (.bool false)], args := [d1, d2, d3] }
  | _ => none }
def AuditWrongWrongFalsely : Prop := auditWrongRow.holds Try.pinned (OpenSpec.ofChange auditWrongWrong)

/-- 'temperalaw40.AuditLoads': WHATEVER THE INPUT: true; the input reads as it did. -/
def auditLoadsSpec : ChangeSpec := { name := "auditLoads", fn := fun _ => fun
  | [d1, d2, d3] => { results := [.lit (.bool true)], args := [d1, d2, d3] }
  | _ => none }
def auditLoadsRow : OpenClaim := { program := "ytjknkmidcmiefaa", sum := "41be05ab3f375915d2f15ee0ee4f9127f54e2429d5e7c68fe6edb465bc276688", func := "tempera/temperalaw40.AuditLoads", spec := "auditLoads", plainKeys := false, apart := false }
def AuditLoadsSaid : Prop := auditLoadsRow.holds Try.pinned (OpenSpec.ofChange auditLoadsSpec)

/-- ITS FALSE NEIGHBOUR: 'it returns false'. Refute it at one input. -/
def auditLoadsWrong : ChangeSpec := { name := "auditLoads", fn := fun _ => fun
  | [d1, d2, d3] => { results := [.lit (.bool false)], args := [d1, d2, d3] }
  | _ => none }
def AuditLoadsWrongFalsely : Prop := auditLoadsRow.holds Try.pinned (OpenSpec.ofChange auditLoadsWrong)

/- THE SECOND FORM. 'bulk': how many values and letters a reading holds, each counted each time it is reached (what is shared counts as often as it is met; a slice's spare places count too). A statement '..UptoSaid' is the law's where the arguments, and the package variables that the reading takes, are together of bulk at most 1048576: NARROWER than '..Said'. Prove '..Said' where nothing that the law and all that it calls make is longer than what came in: it says more and counts as full. Else prove '..UptoSaid'. A law counts once. -/
mutual
def uptoBulk {H : Type} : DataW H → Nat
  | .lit (.string bytes) => bytes.length + 1
  | .lit _ => 1
  | .nil => 1
  | .ptr d => uptoBulk d + 1
  | .slice elems spare => uptoBulkAll elems + uptoBulkAll spare + 1
  | .agg parts => uptoBulkAll parts + 1
  | .iface _ d => uptoBulk d + 1
  | .map entries => uptoBulkEntries entries + 1
  | .held _ => 1
def uptoBulkAll {H : Type} : List (DataW H) → Nat
  | [] => 0
  | d :: r => uptoBulk d + uptoBulkAll r
def uptoBulkEntries {H : Type} : List (Lit × DataW H) → Nat
  | [] => 0
  | x :: r => uptoBulkEntry x + uptoBulkEntries r
def uptoBulkEntry {H : Type} : Lit × DataW H → Nat
  | (.string bytes, d) => bytes.length + uptoBulk d + 1
  | (_, d) => uptoBulk d + 1
 end
def uptoSmall : (H : Type) → List (DataW H) → Bool := fun _ ds => decide (uptoBulkAll ds ≤ 1048576)
def OpenSpec.upto (s : _root_.Go.ChangeSpec) : _root_.Go.OpenSpec := { _root_.Go.OpenSpec.ofChange s with cond := some uptoSmall }

/-- 'temperalaw40.AuditWrong', WHERE WHAT IT READS IS OF BULK AT MOST 1048576: true; the input reads as it did. -/
def auditWrongUptoRow : OpenClaim := { program := "ytjknkmidcmiefaa", sum := "41be05ab3f375915d2f15ee0ee4f9127f54e2429d5e7c68fe6edb465bc276688", func := "tempera/temperalaw40.AuditWrong", spec := "auditWrong", plainKeys := false, apart := false, narrowed := true }
def AuditWrongUptoSaid : Prop := auditWrongUptoRow.holds Try.pinned (OpenSpec.upto auditWrongSpec)

/-- 'temperalaw40.AuditLoads', WHERE WHAT IT READS IS OF BULK AT MOST 1048576: true; the input reads as it did. -/
def auditLoadsUptoRow : OpenClaim := { program := "ytjknkmidcmiefaa", sum := "41be05ab3f375915d2f15ee0ee4f9127f54e2429d5e7c68fe6edb465bc276688", func := "tempera/temperalaw40.AuditLoads", spec := "auditLoads", plainKeys := false, apart := false, narrowed := true }
def AuditLoadsUptoSaid : Prop := auditLoadsUptoRow.holds Try.pinned (OpenSpec.upto auditLoadsSpec)

end Rows
end Go.Proofs.Ytjknkmidcmiefaa
