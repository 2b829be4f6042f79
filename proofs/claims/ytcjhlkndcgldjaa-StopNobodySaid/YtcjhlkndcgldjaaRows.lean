/-
  No cell of these rows narrows 'for every input' (looked for: loops, veiled, ifaces, maps, wideKeys, modest, calm, conditions, laid).
  DERIVED. THE GIVEN ROWS OF THIS SEAT. 4 by the template 'for every input the law returns true; each argument reads behind the call as it read before'; 0 by the template 'total and deterministic' (their statements: YtcjhlkndcgldjaaTotals.lean).
  GIVEN WITH THE SEED: the statements are not yours to turn. If you find one false, say at which input.
  Laid BY PROGRAM, IN A SANDBOX (cutbox-rows.mjs): the forced cells as the released guide's own fill.sh prints them over the translation f43d25f3df8c07bb… (all of the seat's roots in one cut). By AI agents, Wed Nov 11 2026. No macro, syntax, notation, axiom, sorry.
-/
import Derived.Test.YtcjhlkndcgldjaaChecked
import GoSem.Claim
import GoSem.ClaimJoined
import GoSem.ClaimMapViews
import Derived.JoinedTies
import Derived.KernelRfl
namespace Go.Proofs.Ytcjhlkndcgldjaa
/- THE CELL 'sum', in the pinned program and in every row, IS THE sha256 OF THE DUMP (.gsa) THAT YtcjhlkndcgldjaaProg.lean LOADS. Nothing in Lean hashes anything: it is a label: what it is worth is what the hold of that sum in a sandbox is worth. -/
noncomputable def Try.pinned : Pinned := { name := "ytcjhlkndcgldjaa", sum := "f43d25f3df8c07bb42e8c732844c7276433874d59c9b8d3ba77c617ae93b6765", checked := Try.checked }
namespace Rows
def none {H : Type} : Left H := { results := [], args := [] }

/-- 'garboardlaw32.StopFinds': WHATEVER THE INPUT: true; the input reads as it did. -/
def stopFindsSpec : ChangeSpec := { name := "stopFinds", fn := fun _ => fun
  | [d1, d2] => { results := [.lit (.bool true)], args := [d1, d2] }
  | _ => none }
def stopFindsRow : OpenClaim := { program := "ytcjhlkndcgldjaa", sum := "f43d25f3df8c07bb42e8c732844c7276433874d59c9b8d3ba77c617ae93b6765", func := "garboard/garboardlaw32.StopFinds", spec := "stopFinds", apart := false }
def StopFindsSaid : Prop := stopFindsRow.holds Try.pinned (OpenSpec.ofChange stopFindsSpec)

/-- ITS FALSE NEIGHBOUR: 'it returns false'. Refute it at one input. -/
def stopFindsWrong : ChangeSpec := { name := "stopFinds", fn := fun _ => fun
  | [d1, d2] => { results := [.lit (.bool false)], args := [d1, d2] }
  | _ => none }
def StopFindsWrongFalsely : Prop := stopFindsRow.holds Try.pinned (OpenSpec.ofChange stopFindsWrong)

/-- 'garboardlaw32.StopMatches': WHATEVER THE INPUT: true; the input reads as it did. -/
def stopMatchesSpec : ChangeSpec := { name := "stopMatches", fn := fun _ => fun
  | [d1, d2] => { results := [.lit (.bool true)], args := [d1, d2] }
  | _ => none }
def stopMatchesRow : OpenClaim := { program := "ytcjhlkndcgldjaa", sum := "f43d25f3df8c07bb42e8c732844c7276433874d59c9b8d3ba77c617ae93b6765", func := "garboard/garboardlaw32.StopMatches", spec := "stopMatches", apart := false }
def StopMatchesSaid : Prop := stopMatchesRow.holds Try.pinned (OpenSpec.ofChange stopMatchesSpec)

/-- ITS FALSE NEIGHBOUR: 'it returns false'. Refute it at one input. -/
def stopMatchesWrong : ChangeSpec := { name := "stopMatches", fn := fun _ => fun
  | [d1, d2] => { results := [.lit (.bool false)], args := [d1, d2] }
  | _ => none }
def StopMatchesWrongFalsely : Prop := stopMatchesRow.holds Try.pinned (OpenSpec.ofChange stopMatchesWrong)

/-- 'garboardlaw32.StopHolds': WHATEVER THE INPUT: true; the input reads as it did. -/
def stopHoldsSpec : ChangeSpec := { name := "stopHolds", fn := fun _ => fun
  | [d1, d2, d3] => { results := [.lit (.bool true)], args := [d1, d2, d3] }
  | _ => none }
def stopHoldsRow : OpenClaim := { program := "ytcjhlkndcgldjaa", sum := "f43d25f3df8c07bb42e8c732844c7276433874d59c9b8d3ba77c617ae93b6765", func := "garboard/garboardlaw32.StopHolds", spec := "stopHolds", apart := false }
def StopHoldsSaid : Prop := stopHoldsRow.holds Try.pinned (OpenSpec.ofChange stopHoldsSpec)

/-- ITS FALSE NEIGHBOUR: 'it returns false'. Refute it at one input. -/
def stopHoldsWrong : ChangeSpec := { name := "stopHolds", fn := fun _ => fun
  | [d1, d2, d3] => { results := [.lit (.bool false)], args := [d1, d2, d3] }
  | _ => none }
def StopHoldsWrongFalsely : Prop := stopHoldsRow.holds Try.pinned (OpenSpec.ofChange stopHoldsWrong)

/-- 'garboardlaw32.StopNobody': WHATEVER THE INPUT: true; the input reads as it did. -/
def stopNobodySpec : ChangeSpec := { name := "stopNobody", fn := fun _ => fun
  | [d1, d2] => { results := [.lit (.bool true)], args := [d1, d2] }
  | _ => none }
def stopNobodyRow : OpenClaim := { program := "ytcjhlkndcgldjaa", sum := "f43d25f3df8c07bb42e8c732844c7276433874d59c9b8d3ba77c617ae93b6765", func := "garboard/garboardlaw32.StopNobody", spec := "stopNobody", apart := false }
def StopNobodySaid : Prop := stopNobodyRow.holds Try.pinned (OpenSpec.ofChange stopNobodySpec)

/-- ITS FALSE NEIGHBOUR: 'it returns false'. Refute it at one input. -/
def stopNobodyWrong : ChangeSpec := { name := "stopNobody", fn := fun _ => fun
  | [d1, d2] => { results := [.lit (.bool false)], args := [d1, d2] }
  | _ => none }
def StopNobodyWrongFalsely : Prop := stopNobodyRow.holds Try.pinned (OpenSpec.ofChange stopNobodyWrong)

/- THE SECOND FORM. 'bulk': how many values and letters a reading holds, each counted each time it is reached (what is shared counts as often as it is met; a slice's spare places count too). A statement '..UptoSaid' is the law's where the arguments, and the package variables that the reading takes, are together of bulk at most 1048576: NARROWER than '..Said'. Prove '..Said' where nothing that the law and all that it calls make is longer than what came in: it says more and counts as full. Else prove '..UptoSaid'. A law counts once. -/
mutual
def uptoBulk {H : Type} : DataW H → Nat
  | .lit (.string bytes) => bytes.length + 1
  | .lit _ => 1
  | .nil => 1
  | .ptr d => uptoBulk d + 1
  | .slice elems spare => uptoBulkAll elems + uptoBulkAll spare + 1
  | .agg parts => uptoBulkAll parts + 1
  | .iface _ d => uptoBulk d + 1
  | .map entries => uptoBulkEntries entries + 1
  | .held _ => 1
def uptoBulkAll {H : Type} : List (DataW H) → Nat
  | [] => 0
  | d :: r => uptoBulk d + uptoBulkAll r
def uptoBulkEntries {H : Type} : List (Lit × DataW H) → Nat
  | [] => 0
  | x :: r => uptoBulkEntry x + uptoBulkEntries r
def uptoBulkEntry {H : Type} : Lit × DataW H → Nat
  | (.string bytes, d) => bytes.length + uptoBulk d + 1
  | (_, d) => uptoBulk d + 1
 end
def uptoSmall : (H : Type) → List (DataW H) → Bool := fun _ ds => decide (uptoBulkAll ds ≤ 1048576)
def OpenSpec.upto (s : _root_.Go.ChangeSpec) : _root_.Go.OpenSpec := { _root_.Go.OpenSpec.ofChange s with cond := some uptoSmall }

/-- 'garboardlaw32.StopFinds', WHERE WHAT IT READS IS OF BULK AT MOST 1048576: true; the input reads as it did. -/
def stopFindsUptoRow : OpenClaim := { program := "ytcjhlkndcgldjaa", sum := "f43d25f3df8c07bb42e8c732844c7276433874d59c9b8d3ba77c617ae93b6765", func := "garboard/garboardlaw32.StopFinds", spec := "stopFinds", apart := false, narrowed := true }
def StopFindsUptoSaid : Prop := stopFindsUptoRow.holds Try.pinned (OpenSpec.upto stopFindsSpec)

/-- 'garboardlaw32.StopMatches', WHERE WHAT IT READS IS OF BULK AT MOST 1048576: true; the input reads as it did. -/
def stopMatchesUptoRow : OpenClaim := { program := "ytcjhlkndcgldjaa", sum := "f43d25f3df8c07bb42e8c732844c7276433874d59c9b8d3ba77c617ae93b6765", func := "garboard/garboardlaw32.StopMatches", spec := "stopMatches", apart := false, narrowed := true }
def StopMatchesUptoSaid : Prop := stopMatchesUptoRow.holds Try.pinned (OpenSpec.upto stopMatchesSpec)

/-- 'garboardlaw32.StopHolds', WHERE WHAT IT READS IS OF BULK AT MOST 1048576: true; the input reads as it did. -/
def stopHoldsUptoRow : OpenClaim := { program := "ytcjhlkndcgldjaa", sum := "f43d25f3df8c07bb42e8c732844c7276433874d59c9b8d3ba77c617ae93b6765", func := "garboard/garboardlaw32.StopHolds", spec := "stopHolds", apart := false, narrowed := true }
def StopHoldsUptoSaid : Prop := stopHoldsUptoRow.holds Try.pinned (OpenSpec.upto stopHoldsSpec)

/-- 'garboardlaw32.StopNobody', WHERE WHAT IT READS IS OF BULK AT MOST 1048576: true; the input reads as it did. -/
def stopNobodyUptoRow : OpenClaim := { program := "ytcjhlkndcgldjaa", sum := "f43d25f3df8c07bb42e8c732844c7276433874d59c9b8d3ba77c617ae93b6765", func := "garboard/garboardlaw32.StopNobody", spec := "stopNobody", apart := false, narrowed := true }
def StopNobodyUptoSaid : Prop := stopNobodyUptoRow.holds Try.pinned (OpenSpec.upto stopNobodySpec)

end Rows
end Go.Proofs.Ytcjhlkndcgldjaa
