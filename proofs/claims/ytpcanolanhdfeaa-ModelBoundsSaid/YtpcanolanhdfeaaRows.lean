/-
  No cell of these rows narrows 'for every input' (looked for: loops, veiled, ifaces, maps, wideKeys, modest, calm, conditions, laid).
  DERIVED. THE GIVEN ROWS OF THIS SEAT. 3 by the template 'for every input the law returns true; each argument reads behind the call as it read before'; 0 by the template 'total and deterministic' (their statements: YtpcanolanhdfeaaTotals.lean).
  GIVEN WITH THE SEED: the statements are not yours to turn. If you find one false, say at which input.
  Laid BY PROGRAM, IN A SANDBOX (cutbox-rows.mjs): the forced cells as the released guide's own fill.sh prints them over the translation fcd55a42bff04549… (all of the seat's roots in one cut). By AI agents, Wed Nov 11 2026. No macro, syntax, notation, axiom, sorry.
-/
import Derived.Test.YtpcanolanhdfeaaChecked
import GoSem.Claim
import GoSem.ClaimJoined
import GoSem.ClaimMapViews
import Derived.JoinedTies
import Derived.KernelRfl
namespace Go.Proofs.Ytpcanolanhdfeaa
/- THE CELL 'sum', in the pinned program and in every row, IS THE sha256 OF THE DUMP (.gsa) THAT YtpcanolanhdfeaaProg.lean LOADS. Nothing in Lean hashes anything: it is a label: what it is worth is what the hold of that sum in a sandbox is worth. -/
noncomputable def Try.pinned : Pinned := { name := "ytpcanolanhdfeaa", sum := "fcd55a42bff045496ba183a4633f5114721e6af29fd74633fba42b5b01d9120e", checked := Try.checked }
namespace Rows
def none {H : Type} : Left H := { results := [], args := [] }

/-- 'garboardlaw09.ModelParts': WHATEVER THE INPUT: true; the input reads as it did. -/
def modelPartsSpec : ChangeSpec := { name := "modelParts", fn := fun _ => fun
  | [d1, d2, d3] => { results := [.lit (.bool true)], args := [d1, d2, d3] }
  | _ => none }
def modelPartsRow : OpenClaim := { program := "ytpcanolanhdfeaa", sum := "fcd55a42bff045496ba183a4633f5114721e6af29fd74633fba42b5b01d9120e", func := "garboard/garboardlaw09.ModelParts", spec := "modelParts", unfollowed := true, recurses := true, apart := false }
def ModelPartsSaid : Prop := modelPartsRow.holds Try.pinned (OpenSpec.ofChange modelPartsSpec)

/-- ITS FALSE NEIGHBOUR: 'it returns false'. Refute it at one input. -/
def modelPartsWrong : ChangeSpec := { name := "modelParts", fn := fun _ => fun
  | [d1, d2, d3] => { results := [.lit (.bool false)], args := [d1, d2, d3] }
  | _ => none }
def ModelPartsWrongFalsely : Prop := modelPartsRow.holds Try.pinned (OpenSpec.ofChange modelPartsWrong)

/-- 'garboardlaw09.ModelTables': WHATEVER THE INPUT: true; the input reads as it did. -/
def modelTablesSpec : ChangeSpec := { name := "modelTables", fn := fun _ => fun
  | [d1, d2] => { results := [.lit (.bool true)], args := [d1, d2] }
  | _ => none }
def modelTablesRow : OpenClaim := { program := "ytpcanolanhdfeaa", sum := "fcd55a42bff045496ba183a4633f5114721e6af29fd74633fba42b5b01d9120e", func := "garboard/garboardlaw09.ModelTables", spec := "modelTables", unfollowed := true, recurses := true, apart := false }
def ModelTablesSaid : Prop := modelTablesRow.holds Try.pinned (OpenSpec.ofChange modelTablesSpec)

/-- ITS FALSE NEIGHBOUR: 'it returns false'. Refute it at one input. -/
def modelTablesWrong : ChangeSpec := { name := "modelTables", fn := fun _ => fun
  | [d1, d2] => { results := [.lit (.bool false)], args := [d1, d2] }
  | _ => none }
def ModelTablesWrongFalsely : Prop := modelTablesRow.holds Try.pinned (OpenSpec.ofChange modelTablesWrong)

/-- 'garboardlaw09.ModelBounds': WHATEVER THE INPUT: true; the input reads as it did. -/
def modelBoundsSpec : ChangeSpec := { name := "modelBounds", fn := fun _ => fun
  | [d1, d2, d3] => { results := [.lit (.bool true)], args := [d1, d2, d3] }
  | _ => none }
def modelBoundsRow : OpenClaim := { program := "ytpcanolanhdfeaa", sum := "fcd55a42bff045496ba183a4633f5114721e6af29fd74633fba42b5b01d9120e", func := "garboard/garboardlaw09.ModelBounds", spec := "modelBounds", unfollowed := true, recurses := true, apart := false }
def ModelBoundsSaid : Prop := modelBoundsRow.holds Try.pinned (OpenSpec.ofChange modelBoundsSpec)

/-- ITS FALSE NEIGHBOUR: 'it returns false'. Refute it at one input. -/
def modelBoundsWrong : ChangeSpec := { name := "modelBounds", fn := fun _ => fun
  | [d1, d2, d3] => { results := [.lit (.bool false)], args := [d1, d2, d3] }
  | _ => none }
def ModelBoundsWrongFalsely : Prop := modelBoundsRow.holds Try.pinned (OpenSpec.ofChange modelBoundsWrong)

/- THE SECOND FORM. 'bulk': how many values and letters a reading holds, each counted each time it is reached (what is shared counts as often as it is met; a slice's spare places count too). A statement '..UptoSaid' is the law's where the arguments, and the package variables that the reading takes, are together of bulk at most 1048576: NARROWER than '..Said'. Prove '..Said' where nothing that the law and all that it calls make is longer than what came in: it says more and counts as full. Else prove '..UptoSaid'. A law counts once. -/
mutual
def uptoBulk {H : Type} : DataW H → Nat
  | .lit (.string bytes) => bytes.length + 1
  | .lit _ => 1
  | .nil => 1
  | .ptr d => uptoBulk d + 1
  | .slice elems spare => uptoBulkAll elems + uptoBulkAll spare + 1
  | .agg parts => uptoBulkAll parts + 1
  | .iface _ d => uptoBulk d + 1
  | .map entries => uptoBulkEntries entries + 1
  | .held _ => 1
def uptoBulkAll {H : Type} : List (DataW H) → Nat
  | [] => 0
  | d :: r => uptoBulk d + uptoBulkAll r
def uptoBulkEntries {H : Type} : List (Lit × DataW H) → Nat
  | [] => 0
  | x :: r => uptoBulkEntry x + uptoBulkEntries r
def uptoBulkEntry {H : Type} : Lit × DataW H → Nat
  | (.string bytes, d) => bytes.length + uptoBulk d + 1
  | (_, d) => uptoBulk d + 1
 end
def uptoSmall : (H : Type) → List (DataW H) → Bool := fun _ ds => decide (uptoBulkAll ds ≤ 1048576)
def OpenSpec.upto (s : _root_.Go.ChangeSpec) : _root_.Go.OpenSpec := { _root_.Go.OpenSpec.ofChange s with cond := some uptoSmall }

/-- 'garboardlaw09.ModelParts', WHERE WHAT IT READS IS OF BULK AT MOST 1048576: true; the input reads as it did. -/
def modelPartsUptoRow : OpenClaim := { program := "ytpcanolanhdfeaa", sum := "fcd55a42bff045496ba183a4633f5114721e6af29fd74633fba42b5b01d9120e", func := "garboard/garboardlaw09.ModelParts", spec := "modelParts", unfollowed := true, recurses := true, apart := false, narrowed := true }
def ModelPartsUptoSaid : Prop := modelPartsUptoRow.holds Try.pinned (OpenSpec.upto modelPartsSpec)

/-- 'garboardlaw09.ModelTables', WHERE WHAT IT READS IS OF BULK AT MOST 1048576: true; the input reads as it did. -/
def modelTablesUptoRow : OpenClaim := { program := "ytpcanolanhdfeaa", sum := "fcd55a42bff045496ba183a4633f5114721e6af29fd74633fba42b5b01d9120e", func := "garboard/garboardlaw09.ModelTables", spec := "modelTables", unfollowed := true, recurses := true, apart := false, narrowed := true }
def ModelTablesUptoSaid : Prop := modelTablesUptoRow.holds Try.pinned (OpenSpec.upto modelTablesSpec)

/-- 'garboardlaw09.ModelBounds', WHERE WHAT IT READS IS OF BULK AT MOST 1048576: true; the input reads as it did. -/
def modelBoundsUptoRow : OpenClaim := { program := "ytpcanolanhdfeaa", sum := "fcd55a42bff045496ba183a4633f5114721e6af29fd74633fba42b5b01d9120e", func := "garboard/garboardlaw09.ModelBounds", spec := "modelBounds", unfollowed := true, recurses := true, apart := false, narrowed := true }
def ModelBoundsUptoSaid : Prop := modelBoundsUptoRow.holds Try.pinned (OpenSpec.upto modelBoundsSpec)

end Rows
end Go.Proofs.Ytpcanolanhdfeaa
