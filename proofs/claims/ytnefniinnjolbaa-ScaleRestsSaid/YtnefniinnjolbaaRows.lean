/-
  No cell of these rows narrows 'for every input' (looked for: loops, veiled, ifaces, maps, wideKeys, modest, calm, conditions, laid).
  DERIVED. THE GIVEN ROWS OF THIS SEAT. 4 by the template 'for every input the law returns true; each argument reads behind the call as it read before'; 0 by the template 'total and deterministic' (their statements: YtnefniinnjolbaaTotals.lean).
  GIVEN WITH THE SEED: the statements are not yours to turn. If you find one false, say at which input.
  Laid BY PROGRAM, IN A SANDBOX (cutbox-rows.mjs): the forced cells as the released guide's own fill.sh prints them over the translation 56e0573332729337… (all of the seat's roots in one cut). By AI agents, Wed Nov 11 2026. No macro, syntax, notation, axiom, sorry.
-/
import Derived.Test.YtnefniinnjolbaaChecked
import GoSem.Claim
import GoSem.ClaimJoined
import GoSem.ClaimMapViews
import Derived.JoinedTies
import Derived.KernelRfl
namespace Go.Proofs.Ytnefniinnjolbaa
/- THE CELL 'sum', in the pinned program and in every row, IS THE sha256 OF THE DUMP (.gsa) THAT YtnefniinnjolbaaProg.lean LOADS. Nothing in Lean hashes anything: it is a label: what it is worth is what the hold of that sum in a sandbox is worth. -/
noncomputable def Try.pinned : Pinned := { name := "ytnefniinnjolbaa", sum := "56e0573332729337ba8146c3196d87e6137b1b76934654bbc30e5c55bcc4d881", checked := Try.checked }
namespace Rows
def none {H : Type} : Left H := { results := [], args := [] }

/-- 'garboardlaw25.ScaleRests': WHATEVER THE INPUT: true; the input reads as it did. -/
def scaleRestsSpec : ChangeSpec := { name := "scaleRests", fn := fun _ => fun
  | [d1, d2, d3] => { results := [.lit (.bool true)], args := [d1, d2, d3] }
  | _ => none }
def scaleRestsRow : OpenClaim := { program := "ytnefniinnjolbaa", sum := "56e0573332729337ba8146c3196d87e6137b1b76934654bbc30e5c55bcc4d881", func := "garboard/garboardlaw25.ScaleRests", spec := "scaleRests", apart := false }
def ScaleRestsSaid : Prop := scaleRestsRow.holds Try.pinned (OpenSpec.ofChange scaleRestsSpec)

/-- ITS FALSE NEIGHBOUR: 'it returns false'. Refute it at one input. -/
def scaleRestsWrong : ChangeSpec := { name := "scaleRests", fn := fun _ => fun
  | [d1, d2, d3] => { results := [.lit (.bool false)], args := [d1, d2, d3] }
  | _ => none }
def ScaleRestsWrongFalsely : Prop := scaleRestsRow.holds Try.pinned (OpenSpec.ofChange scaleRestsWrong)

/-- 'garboardlaw25.ScaleWaits': WHATEVER THE INPUT: true; the input reads as it did. -/
def scaleWaitsSpec : ChangeSpec := { name := "scaleWaits", fn := fun _ => fun
  | [d1, d2] => { results := [.lit (.bool true)], args := [d1, d2] }
  | _ => none }
def scaleWaitsRow : OpenClaim := { program := "ytnefniinnjolbaa", sum := "56e0573332729337ba8146c3196d87e6137b1b76934654bbc30e5c55bcc4d881", func := "garboard/garboardlaw25.ScaleWaits", spec := "scaleWaits", apart := false }
def ScaleWaitsSaid : Prop := scaleWaitsRow.holds Try.pinned (OpenSpec.ofChange scaleWaitsSpec)

/-- ITS FALSE NEIGHBOUR: 'it returns false'. Refute it at one input. -/
def scaleWaitsWrong : ChangeSpec := { name := "scaleWaits", fn := fun _ => fun
  | [d1, d2] => { results := [.lit (.bool false)], args := [d1, d2] }
  | _ => none }
def ScaleWaitsWrongFalsely : Prop := scaleWaitsRow.holds Try.pinned (OpenSpec.ofChange scaleWaitsWrong)

/-- 'garboardlaw25.ScalePlays': WHATEVER THE INPUT: true; the input reads as it did. -/
def scalePlaysSpec : ChangeSpec := { name := "scalePlays", fn := fun _ => fun
  | [d1, d2] => { results := [.lit (.bool true)], args := [d1, d2] }
  | _ => none }
def scalePlaysRow : OpenClaim := { program := "ytnefniinnjolbaa", sum := "56e0573332729337ba8146c3196d87e6137b1b76934654bbc30e5c55bcc4d881", func := "garboard/garboardlaw25.ScalePlays", spec := "scalePlays", apart := false }
def ScalePlaysSaid : Prop := scalePlaysRow.holds Try.pinned (OpenSpec.ofChange scalePlaysSpec)

/-- ITS FALSE NEIGHBOUR: 'it returns false'. Refute it at one input. -/
def scalePlaysWrong : ChangeSpec := { name := "scalePlays", fn := fun _ => fun
  | [d1, d2] => { results := [.lit (.bool false)], args := [d1, d2] }
  | _ => none }
def ScalePlaysWrongFalsely : Prop := scalePlaysRow.holds Try.pinned (OpenSpec.ofChange scalePlaysWrong)

/-- 'garboardlaw25.ScaleNobody': WHATEVER THE INPUT: true; the input reads as it did. -/
def scaleNobodySpec : ChangeSpec := { name := "scaleNobody", fn := fun _ => fun
  | [d] => { results := [.lit (.bool true)], args := [d] }
  | _ => none }
def scaleNobodyRow : OpenClaim := { program := "ytnefniinnjolbaa", sum := "56e0573332729337ba8146c3196d87e6137b1b76934654bbc30e5c55bcc4d881", func := "garboard/garboardlaw25.ScaleNobody", spec := "scaleNobody", apart := false }
def ScaleNobodySaid : Prop := scaleNobodyRow.holds Try.pinned (OpenSpec.ofChange scaleNobodySpec)

/-- ITS FALSE NEIGHBOUR: 'it returns false'. Refute it at one input. -/
def scaleNobodyWrong : ChangeSpec := { name := "scaleNobody", fn := fun _ => fun
  | [d] => { results := [.lit (.bool false)], args := [d] }
  | _ => none }
def ScaleNobodyWrongFalsely : Prop := scaleNobodyRow.holds Try.pinned (OpenSpec.ofChange scaleNobodyWrong)

/- THE SECOND FORM. 'bulk': how many values and letters a reading holds, each counted each time it is reached (what is shared counts as often as it is met; a slice's spare places count too). A statement '..UptoSaid' is the law's where the arguments, and the package variables that the reading takes, are together of bulk at most 1048576: NARROWER than '..Said'. Prove '..Said' where nothing that the law and all that it calls make is longer than what came in: it says more and counts as full. Else prove '..UptoSaid'. A law counts once. -/
mutual
def uptoBulk {H : Type} : DataW H → Nat
  | .lit (.string bytes) => bytes.length + 1
  | .lit _ => 1
  | .nil => 1
  | .ptr d => uptoBulk d + 1
  | .slice elems spare => uptoBulkAll elems + uptoBulkAll spare + 1
  | .agg parts => uptoBulkAll parts + 1
  | .iface _ d => uptoBulk d + 1
  | .map entries => uptoBulkEntries entries + 1
  | .held _ => 1
def uptoBulkAll {H : Type} : List (DataW H) → Nat
  | [] => 0
  | d :: r => uptoBulk d + uptoBulkAll r
def uptoBulkEntries {H : Type} : List (Lit × DataW H) → Nat
  | [] => 0
  | x :: r => uptoBulkEntry x + uptoBulkEntries r
def uptoBulkEntry {H : Type} : Lit × DataW H → Nat
  | (.string bytes, d) => bytes.length + uptoBulk d + 1
  | (_, d) => uptoBulk d + 1
 end
def uptoSmall : (H : Type) → List (DataW H) → Bool := fun _ ds => decide (uptoBulkAll ds ≤ 1048576)
def OpenSpec.upto (s : _root_.Go.ChangeSpec) : _root_.Go.OpenSpec := { _root_.Go.OpenSpec.ofChange s with cond := some uptoSmall }

/-- 'garboardlaw25.ScaleRests', WHERE WHAT IT READS IS OF BULK AT MOST 1048576: true; the input reads as it did. -/
def scaleRestsUptoRow : OpenClaim := { program := "ytnefniinnjolbaa", sum := "56e0573332729337ba8146c3196d87e6137b1b76934654bbc30e5c55bcc4d881", func := "garboard/garboardlaw25.ScaleRests", spec := "scaleRests", apart := false, narrowed := true }
def ScaleRestsUptoSaid : Prop := scaleRestsUptoRow.holds Try.pinned (OpenSpec.upto scaleRestsSpec)

/-- 'garboardlaw25.ScaleWaits', WHERE WHAT IT READS IS OF BULK AT MOST 1048576: true; the input reads as it did. -/
def scaleWaitsUptoRow : OpenClaim := { program := "ytnefniinnjolbaa", sum := "56e0573332729337ba8146c3196d87e6137b1b76934654bbc30e5c55bcc4d881", func := "garboard/garboardlaw25.ScaleWaits", spec := "scaleWaits", apart := false, narrowed := true }
def ScaleWaitsUptoSaid : Prop := scaleWaitsUptoRow.holds Try.pinned (OpenSpec.upto scaleWaitsSpec)

/-- 'garboardlaw25.ScalePlays', WHERE WHAT IT READS IS OF BULK AT MOST 1048576: true; the input reads as it did. -/
def scalePlaysUptoRow : OpenClaim := { program := "ytnefniinnjolbaa", sum := "56e0573332729337ba8146c3196d87e6137b1b76934654bbc30e5c55bcc4d881", func := "garboard/garboardlaw25.ScalePlays", spec := "scalePlays", apart := false, narrowed := true }
def ScalePlaysUptoSaid : Prop := scalePlaysUptoRow.holds Try.pinned (OpenSpec.upto scalePlaysSpec)

/-- 'garboardlaw25.ScaleNobody', WHERE WHAT IT READS IS OF BULK AT MOST 1048576: true; the input reads as it did. -/
def scaleNobodyUptoRow : OpenClaim := { program := "ytnefniinnjolbaa", sum := "56e0573332729337ba8146c3196d87e6137b1b76934654bbc30e5c55bcc4d881", func := "garboard/garboardlaw25.ScaleNobody", spec := "scaleNobody", apart := false, narrowed := true }
def ScaleNobodyUptoSaid : Prop := scaleNobodyUptoRow.holds Try.pinned (OpenSpec.upto scaleNobodySpec)

end Rows
end Go.Proofs.Ytnefniinnjolbaa
