/-
  No cell of these rows narrows 'for every input' (looked for: loops, veiled, ifaces, maps, wideKeys, modest, calm, conditions, laid).
  DERIVED. THE GIVEN ROWS OF THIS SEAT. 4 by the template 'for every input the law returns true; each argument reads behind the call as it read before'; 0 by the template 'total and deterministic' (their statements: YtlndhmkkffcbnaaTotals.lean).
  GIVEN WITH THE SEED: the statements are not yours to turn. If you find one false, say at which input.
  Laid BY PROGRAM, IN A SANDBOX (cutbox-rows.mjs): the forced cells as the released guide's own fill.sh prints them over the translation 89f7061af6bf73b5… (all of the seat's roots in one cut). By AI agents, Wed Nov 11 2026. No macro, syntax, notation, axiom, sorry.
-/
import Derived.Test.YtlndhmkkffcbnaaChecked
import GoSem.Claim
import GoSem.ClaimJoined
import GoSem.ClaimMapViews
import Derived.JoinedTies
import Derived.KernelRfl
namespace Go.Proofs.Ytlndhmkkffcbnaa
/- THE CELL 'sum', in the pinned program and in every row, IS THE sha256 OF THE DUMP (.gsa) THAT YtlndhmkkffcbnaaProg.lean LOADS. Nothing in Lean hashes anything: it is a label: what it is worth is what the hold of that sum in a sandbox is worth. -/
noncomputable def Try.pinned : Pinned := { name := "ytlndhmkkffcbnaa", sum := "89f7061af6bf73b53d5f5d54ef5d06be51cb401c2fc8485137143d0b0288b751", checked := Try.checked }
namespace Rows
def none {H : Type} : Left H := { results := [], args := [] }

/-- 'garboardlaw31.TokTexts': WHATEVER THE INPUT: true; the input reads as it did. -/
def tokTextsSpec : ChangeSpec := { name := "tokTexts", fn := fun _ => fun
  | [d1, d2, d3] => { results := [.lit (.bool true)], args := [d1, d2, d3] }
  | _ => none }
def tokTextsRow : OpenClaim := { program := "ytlndhmkkffcbnaa", sum := "89f7061af6bf73b53d5f5d54ef5d06be51cb401c2fc8485137143d0b0288b751", func := "garboard/garboardlaw31.TokTexts", spec := "tokTexts", inPlace := ["slices.overlaps[int]"], recurses := true, plainKeys := false, apart := false }
def TokTextsSaid : Prop := tokTextsRow.holds Try.pinned (OpenSpec.ofChange tokTextsSpec)

/-- ITS FALSE NEIGHBOUR: 'it returns false'. Refute it at one input. -/
def tokTextsWrong : ChangeSpec := { name := "tokTexts", fn := fun _ => fun
  | [d1, d2, d3] => { results := [.lit (.bool false)], args := [d1, d2, d3] }
  | _ => none }
def TokTextsWrongFalsely : Prop := tokTextsRow.holds Try.pinned (OpenSpec.ofChange tokTextsWrong)

/-- 'garboardlaw31.TokTables': WHATEVER THE INPUT: true; the input reads as it did. -/
def tokTablesSpec : ChangeSpec := { name := "tokTables", fn := fun _ => fun
  | [d1, d2] => { results := [.lit (.bool true)], args := [d1, d2] }
  | _ => none }
def tokTablesRow : OpenClaim := { program := "ytlndhmkkffcbnaa", sum := "89f7061af6bf73b53d5f5d54ef5d06be51cb401c2fc8485137143d0b0288b751", func := "garboard/garboardlaw31.TokTables", spec := "tokTables", inPlace := ["slices.overlaps[int]"], recurses := true, plainKeys := false, apart := false }
def TokTablesSaid : Prop := tokTablesRow.holds Try.pinned (OpenSpec.ofChange tokTablesSpec)

/-- ITS FALSE NEIGHBOUR: 'it returns false'. Refute it at one input. -/
def tokTablesWrong : ChangeSpec := { name := "tokTables", fn := fun _ => fun
  | [d1, d2] => { results := [.lit (.bool false)], args := [d1, d2] }
  | _ => none }
def TokTablesWrongFalsely : Prop := tokTablesRow.holds Try.pinned (OpenSpec.ofChange tokTablesWrong)

/-- 'garboardlaw31.TokBack': WHATEVER THE INPUT: true; the input reads as it did. -/
def tokBackSpec : ChangeSpec := { name := "tokBack", fn := fun _ => fun
  | [d1, d2] => { results := [.lit (.bool true)], args := [d1, d2] }
  | _ => none }
def tokBackRow : OpenClaim := { program := "ytlndhmkkffcbnaa", sum := "89f7061af6bf73b53d5f5d54ef5d06be51cb401c2fc8485137143d0b0288b751", func := "garboard/garboardlaw31.TokBack", spec := "tokBack", inPlace := ["slices.overlaps[int]"], recurses := true, plainKeys := false, apart := false }
def TokBackSaid : Prop := tokBackRow.holds Try.pinned (OpenSpec.ofChange tokBackSpec)

/-- ITS FALSE NEIGHBOUR: 'it returns false'. Refute it at one input. -/
def tokBackWrong : ChangeSpec := { name := "tokBack", fn := fun _ => fun
  | [d1, d2] => { results := [.lit (.bool false)], args := [d1, d2] }
  | _ => none }
def TokBackWrongFalsely : Prop := tokBackRow.holds Try.pinned (OpenSpec.ofChange tokBackWrong)

/-- 'garboardlaw31.TokLearns': WHATEVER THE INPUT: true; the input reads as it did. -/
def tokLearnsSpec : ChangeSpec := { name := "tokLearns", fn := fun _ => fun
  | [d1, d2] => { results := [.lit (.bool true)], args := [d1, d2] }
  | _ => none }
def tokLearnsRow : OpenClaim := { program := "ytlndhmkkffcbnaa", sum := "89f7061af6bf73b53d5f5d54ef5d06be51cb401c2fc8485137143d0b0288b751", func := "garboard/garboardlaw31.TokLearns", spec := "tokLearns", inPlace := ["slices.overlaps[int]"], recurses := true, plainKeys := false, apart := false }
def TokLearnsSaid : Prop := tokLearnsRow.holds Try.pinned (OpenSpec.ofChange tokLearnsSpec)

/-- ITS FALSE NEIGHBOUR: 'it returns false'. Refute it at one input. -/
def tokLearnsWrong : ChangeSpec := { name := "tokLearns", fn := fun _ => fun
  | [d1, d2] => { results := [.lit (.bool false)], args := [d1, d2] }
  | _ => none }
def TokLearnsWrongFalsely : Prop := tokLearnsRow.holds Try.pinned (OpenSpec.ofChange tokLearnsWrong)

/- THE SECOND FORM. 'bulk': how many values and letters a reading holds, each counted each time it is reached (what is shared counts as often as it is met; a slice's spare places count too). A statement '..UptoSaid' is the law's where the arguments, and the package variables that the reading takes, are together of bulk at most 1048576: NARROWER than '..Said'. Prove '..Said' where nothing that the law and all that it calls make is longer than what came in: it says more and counts as full. Else prove '..UptoSaid'. A law counts once. -/
mutual
def uptoBulk {H : Type} : DataW H → Nat
  | .lit (.string bytes) => bytes.length + 1
  | .lit _ => 1
  | .nil => 1
  | .ptr d => uptoBulk d + 1
  | .slice elems spare => uptoBulkAll elems + uptoBulkAll spare + 1
  | .agg parts => uptoBulkAll parts + 1
  | .iface _ d => uptoBulk d + 1
  | .map entries => uptoBulkEntries entries + 1
  | .held _ => 1
def uptoBulkAll {H : Type} : List (DataW H) → Nat
  | [] => 0
  | d :: r => uptoBulk d + uptoBulkAll r
def uptoBulkEntries {H : Type} : List (Lit × DataW H) → Nat
  | [] => 0
  | x :: r => uptoBulkEntry x + uptoBulkEntries r
def uptoBulkEntry {H : Type} : Lit × DataW H → Nat
  | (.string bytes, d) => bytes.length + uptoBulk d + 1
  | (_, d) => uptoBulk d + 1
 end
def uptoSmall : (H : Type) → List (DataW H) → Bool := fun _ ds => decide (uptoBulkAll ds ≤ 1048576)
def OpenSpec.upto (s : _root_.Go.ChangeSpec) : _root_.Go.OpenSpec := { _root_.Go.OpenSpec.ofChange s with cond := some uptoSmall }

/-- 'garboardlaw31.TokTexts', WHERE WHAT IT READS IS OF BULK AT MOST 1048576: true; the input reads as it did. -/
def tokTextsUptoRow : OpenClaim := { program := "ytlndhmkkffcbnaa", sum := "89f7061af6bf73b53d5f5d54ef5d06be51cb401c2fc8485137143d0b0288b751", func := "garboard/garboardlaw31.TokTexts", spec := "tokTexts", inPlace := ["slices.overlaps[int]"], recurses := true, plainKeys := false, apart := false, narrowed := true }
def TokTextsUptoSaid : Prop := tokTextsUptoRow.holds Try.pinned (OpenSpec.upto tokTextsSpec)

/-- 'garboardlaw31.TokTables', WHERE WHAT IT READS IS OF BULK AT MOST 1048576: true; the input reads as it did. -/
def tokTablesUptoRow : OpenClaim := { program := "ytlndhmkkffcbnaa", sum := "89f7061af6bf73b53d5f5d54ef5d06be51cb401c2fc8485137143d0b0288b751", func := "garboard/garboardlaw31.TokTables", spec := "tokTables", inPlace := ["slices.overlaps[int]"], recurses := true, plainKeys := false, apart := false, narrowed := true }
def TokTablesUptoSaid : Prop := tokTablesUptoRow.holds Try.pinned (OpenSpec.upto tokTablesSpec)

/-- 'garboardlaw31.TokBack', WHERE WHAT IT READS IS OF BULK AT MOST 1048576: true; the input reads as it did. -/
def tokBackUptoRow : OpenClaim := { program := "ytlndhmkkffcbnaa", sum := "89f7061af6bf73b53d5f5d54ef5d06be51cb401c2fc8485137143d0b0288b751", func := "garboard/garboardlaw31.TokBack", spec := "tokBack", inPlace := ["slices.overlaps[int]"], recurses := true, plainKeys := false, apart := false, narrowed := true }
def TokBackUptoSaid : Prop := tokBackUptoRow.holds Try.pinned (OpenSpec.upto tokBackSpec)

/-- 'garboardlaw31.TokLearns', WHERE WHAT IT READS IS OF BULK AT MOST 1048576: true; the input reads as it did. -/
def tokLearnsUptoRow : OpenClaim := { program := "ytlndhmkkffcbnaa", sum := "89f7061af6bf73b53d5f5d54ef5d06be51cb401c2fc8485137143d0b0288b751", func := "garboard/garboardlaw31.TokLearns", spec := "tokLearns", inPlace := ["slices.overlaps[int]"], recurses := true, plainKeys := false, apart := false, narrowed := true }
def TokLearnsUptoSaid : Prop := tokLearnsUptoRow.holds Try.pinned (OpenSpec.upto tokLearnsSpec)

end Rows
end Go.Proofs.Ytlndhmkkffcbnaa
