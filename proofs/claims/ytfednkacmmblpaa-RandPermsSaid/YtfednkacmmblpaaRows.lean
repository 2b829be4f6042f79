/-
  No cell of these rows narrows 'for every input' (looked for: loops, veiled, ifaces, maps, wideKeys, modest, calm, conditions, laid).
  DERIVED. THE GIVEN ROWS OF THIS SEAT. 6 by the template 'for every input the law returns true; each argument reads behind the call as it read before'; 0 by the template 'total and deterministic' (their statements: YtfednkacmmblpaaTotals.lean).
  GIVEN WITH THE SEED: the statements are not yours to turn. If you find one false, say at which input.
  Laid BY PROGRAM, IN A SANDBOX (cutbox-rows.mjs): the forced cells as the released guide's own fill.sh prints them over the translation 93c71f22e16f5827… (all of the seat's roots in one cut). By AI agents, Wed Nov 11 2026. No macro, syntax, notation, axiom, sorry.
-/
import Derived.Test.YtfednkacmmblpaaChecked
import GoSem.Claim
import GoSem.ClaimJoined
import GoSem.ClaimMapViews
import Derived.JoinedTies
import Derived.KernelRfl
namespace Go.Proofs.Ytfednkacmmblpaa
/- THE CELL 'sum', in the pinned program and in every row, IS THE sha256 OF THE DUMP (.gsa) THAT YtfednkacmmblpaaProg.lean LOADS. Nothing in Lean hashes anything: it is a label: what it is worth is what the hold of that sum in a sandbox is worth. -/
noncomputable def Try.pinned : Pinned := { name := "ytfednkacmmblpaa", sum := "93c71f22e16f5827f257421f969d5f53272998e4cd233812a0a43a4675aafcbd", checked := Try.checked }
namespace Rows
def none {H : Type} : Left H := { results := [], args := [] }

/-- 'garboardlaw06.RandDraws': WHATEVER THE INPUT: true; the input reads as it did. -/
def randDrawsSpec : ChangeSpec := { name := "randDraws", fn := fun _ => fun
  | [d1, d2, d3] => { results := [.lit (.bool true)], args := [d1, d2, d3] }
  | _ => none }
def randDrawsRow : OpenClaim := { program := "ytfednkacmmblpaa", sum := "93c71f22e16f5827f257421f969d5f53272998e4cd233812a0a43a4675aafcbd", func := "garboard/garboardlaw06.RandDraws", spec := "randDraws", apart := false }
def RandDrawsSaid : Prop := randDrawsRow.holds Try.pinned (OpenSpec.ofChange randDrawsSpec)

/-- ITS FALSE NEIGHBOUR: 'it returns false'. Refute it at one input. -/
def randDrawsWrong : ChangeSpec := { name := "randDraws", fn := fun _ => fun
  | [d1, d2, d3] => { results := [.lit (.bool false)], args := [d1, d2, d3] }
  | _ => none }
def RandDrawsWrongFalsely : Prop := randDrawsRow.holds Try.pinned (OpenSpec.ofChange randDrawsWrong)

/-- 'garboardlaw06.RandOne': WHATEVER THE INPUT: true; the input reads as it did. -/
def randOneSpec : ChangeSpec := { name := "randOne", fn := fun _ => fun
  | [d1, d2] => { results := [.lit (.bool true)], args := [d1, d2] }
  | _ => none }
def randOneRow : OpenClaim := { program := "ytfednkacmmblpaa", sum := "93c71f22e16f5827f257421f969d5f53272998e4cd233812a0a43a4675aafcbd", func := "garboard/garboardlaw06.RandOne", spec := "randOne", apart := false }
def RandOneSaid : Prop := randOneRow.holds Try.pinned (OpenSpec.ofChange randOneSpec)

/-- ITS FALSE NEIGHBOUR: 'it returns false'. Refute it at one input. -/
def randOneWrong : ChangeSpec := { name := "randOne", fn := fun _ => fun
  | [d1, d2] => { results := [.lit (.bool false)], args := [d1, d2] }
  | _ => none }
def RandOneWrongFalsely : Prop := randOneRow.holds Try.pinned (OpenSpec.ofChange randOneWrong)

/-- 'garboardlaw06.RandBelow': WHATEVER THE INPUT: true; the input reads as it did. -/
def randBelowSpec : ChangeSpec := { name := "randBelow", fn := fun _ => fun
  | [d1, d2, d3] => { results := [.lit (.bool true)], args := [d1, d2, d3] }
  | _ => none }
def randBelowRow : OpenClaim := { program := "ytfednkacmmblpaa", sum := "93c71f22e16f5827f257421f969d5f53272998e4cd233812a0a43a4675aafcbd", func := "garboard/garboardlaw06.RandBelow", spec := "randBelow", apart := false }
def RandBelowSaid : Prop := randBelowRow.holds Try.pinned (OpenSpec.ofChange randBelowSpec)

/-- ITS FALSE NEIGHBOUR: 'it returns false'. Refute it at one input. -/
def randBelowWrong : ChangeSpec := { name := "randBelow", fn := fun _ => fun
  | [d1, d2, d3] => { results := [.lit (.bool false)], args := [d1, d2, d3] }
  | _ => none }
def RandBelowWrongFalsely : Prop := randBelowRow.holds Try.pinned (OpenSpec.ofChange randBelowWrong)

/-- 'garboardlaw06.RandDerives': WHATEVER THE INPUT: true; the input reads as it did. -/
def randDerivesSpec : ChangeSpec := { name := "randDerives", fn := fun _ => fun
  | [d1, d2] => { results := [.lit (.bool true)], args := [d1, d2] }
  | _ => none }
def randDerivesRow : OpenClaim := { program := "ytfednkacmmblpaa", sum := "93c71f22e16f5827f257421f969d5f53272998e4cd233812a0a43a4675aafcbd", func := "garboard/garboardlaw06.RandDerives", spec := "randDerives", apart := false }
def RandDerivesSaid : Prop := randDerivesRow.holds Try.pinned (OpenSpec.ofChange randDerivesSpec)

/-- ITS FALSE NEIGHBOUR: 'it returns false'. Refute it at one input. -/
def randDerivesWrong : ChangeSpec := { name := "randDerives", fn := fun _ => fun
  | [d1, d2] => { results := [.lit (.bool false)], args := [d1, d2] }
  | _ => none }
def RandDerivesWrongFalsely : Prop := randDerivesRow.holds Try.pinned (OpenSpec.ofChange randDerivesWrong)

/-- 'garboardlaw06.RandPerms': WHATEVER THE INPUT: true; the input reads as it did. -/
def randPermsSpec : ChangeSpec := { name := "randPerms", fn := fun _ => fun
  | [d1, d2] => { results := [.lit (.bool true)], args := [d1, d2] }
  | _ => none }
def randPermsRow : OpenClaim := { program := "ytfednkacmmblpaa", sum := "93c71f22e16f5827f257421f969d5f53272998e4cd233812a0a43a4675aafcbd", func := "garboard/garboardlaw06.RandPerms", spec := "randPerms", unfollowed := true, recurses := true, apart := false }
def RandPermsSaid : Prop := randPermsRow.holds Try.pinned (OpenSpec.ofChange randPermsSpec)

/-- ITS FALSE NEIGHBOUR: 'it returns false'. Refute it at one input. -/
def randPermsWrong : ChangeSpec := { name := "randPerms", fn := fun _ => fun
  | [d1, d2] => { results := [.lit (.bool false)], args := [d1, d2] }
  | _ => none }
def RandPermsWrongFalsely : Prop := randPermsRow.holds Try.pinned (OpenSpec.ofChange randPermsWrong)

/-- 'garboardlaw06.RandSources': WHATEVER THE INPUT: true; the input reads as it did. -/
def randSourcesSpec : ChangeSpec := { name := "randSources", fn := fun _ => fun
  | [d1, d2] => { results := [.lit (.bool true)], args := [d1, d2] }
  | _ => none }
def randSourcesRow : OpenClaim := { program := "ytfednkacmmblpaa", sum := "93c71f22e16f5827f257421f969d5f53272998e4cd233812a0a43a4675aafcbd", func := "garboard/garboardlaw06.RandSources", spec := "randSources", apart := false }
def RandSourcesSaid : Prop := randSourcesRow.holds Try.pinned (OpenSpec.ofChange randSourcesSpec)

/-- ITS FALSE NEIGHBOUR: 'it returns false'. Refute it at one input. -/
def randSourcesWrong : ChangeSpec := { name := "randSources", fn := fun _ => fun
  | [d1, d2] => { results := [.lit (.bool false)], args := [d1, d2] }
  | _ => none }
def RandSourcesWrongFalsely : Prop := randSourcesRow.holds Try.pinned (OpenSpec.ofChange randSourcesWrong)

/- THE SECOND FORM. 'bulk': how many values and letters a reading holds, each counted each time it is reached (what is shared counts as often as it is met; a slice's spare places count too). A statement '..UptoSaid' is the law's where the arguments, and the package variables that the reading takes, are together of bulk at most 1048576: NARROWER than '..Said'. Prove '..Said' where nothing that the law and all that it calls make is longer than what came in: it says more and counts as full. Else prove '..UptoSaid'. A law counts once. -/
mutual
def uptoBulk {H : Type} : DataW H → Nat
  | .lit (.string bytes) => bytes.length + 1
  | .lit _ => 1
  | .nil => 1
  | .ptr d => uptoBulk d + 1
  | .slice elems spare => uptoBulkAll elems + uptoBulkAll spare + 1
  | .agg parts => uptoBulkAll parts + 1
  | .iface _ d => uptoBulk d + 1
  | .map entries => uptoBulkEntries entries + 1
  | .held _ => 1
def uptoBulkAll {H : Type} : List (DataW H) → Nat
  | [] => 0
  | d :: r => uptoBulk d + uptoBulkAll r
def uptoBulkEntries {H : Type} : List (Lit × DataW H) → Nat
  | [] => 0
  | x :: r => uptoBulkEntry x + uptoBulkEntries r
def uptoBulkEntry {H : Type} : Lit × DataW H → Nat
  | (.string bytes, d) => bytes.length + uptoBulk d + 1
  | (_, d) => uptoBulk d + 1
 end
def uptoSmall : (H : Type) → List (DataW H) → Bool := fun _ ds => decide (uptoBulkAll ds ≤ 1048576)
def OpenSpec.upto (s : _root_.Go.ChangeSpec) : _root_.Go.OpenSpec := { _root_.Go.OpenSpec.ofChange s with cond := some uptoSmall }

/-- 'garboardlaw06.RandDraws', WHERE WHAT IT READS IS OF BULK AT MOST 1048576: true; the input reads as it did. -/
def randDrawsUptoRow : OpenClaim := { program := "ytfednkacmmblpaa", sum := "93c71f22e16f5827f257421f969d5f53272998e4cd233812a0a43a4675aafcbd", func := "garboard/garboardlaw06.RandDraws", spec := "randDraws", apart := false, narrowed := true }
def RandDrawsUptoSaid : Prop := randDrawsUptoRow.holds Try.pinned (OpenSpec.upto randDrawsSpec)

/-- 'garboardlaw06.RandOne', WHERE WHAT IT READS IS OF BULK AT MOST 1048576: true; the input reads as it did. -/
def randOneUptoRow : OpenClaim := { program := "ytfednkacmmblpaa", sum := "93c71f22e16f5827f257421f969d5f53272998e4cd233812a0a43a4675aafcbd", func := "garboard/garboardlaw06.RandOne", spec := "randOne", apart := false, narrowed := true }
def RandOneUptoSaid : Prop := randOneUptoRow.holds Try.pinned (OpenSpec.upto randOneSpec)

/-- 'garboardlaw06.RandBelow', WHERE WHAT IT READS IS OF BULK AT MOST 1048576: true; the input reads as it did. -/
def randBelowUptoRow : OpenClaim := { program := "ytfednkacmmblpaa", sum := "93c71f22e16f5827f257421f969d5f53272998e4cd233812a0a43a4675aafcbd", func := "garboard/garboardlaw06.RandBelow", spec := "randBelow", apart := false, narrowed := true }
def RandBelowUptoSaid : Prop := randBelowUptoRow.holds Try.pinned (OpenSpec.upto randBelowSpec)

/-- 'garboardlaw06.RandDerives', WHERE WHAT IT READS IS OF BULK AT MOST 1048576: true; the input reads as it did. -/
def randDerivesUptoRow : OpenClaim := { program := "ytfednkacmmblpaa", sum := "93c71f22e16f5827f257421f969d5f53272998e4cd233812a0a43a4675aafcbd", func := "garboard/garboardlaw06.RandDerives", spec := "randDerives", apart := false, narrowed := true }
def RandDerivesUptoSaid : Prop := randDerivesUptoRow.holds Try.pinned (OpenSpec.upto randDerivesSpec)

/-- 'garboardlaw06.RandPerms', WHERE WHAT IT READS IS OF BULK AT MOST 1048576: true; the input reads as it did. -/
def randPermsUptoRow : OpenClaim := { program := "ytfednkacmmblpaa", sum := "93c71f22e16f5827f257421f969d5f53272998e4cd233812a0a43a4675aafcbd", func := "garboard/garboardlaw06.RandPerms", spec := "randPerms", unfollowed := true, recurses := true, apart := false, narrowed := true }
def RandPermsUptoSaid : Prop := randPermsUptoRow.holds Try.pinned (OpenSpec.upto randPermsSpec)

/-- 'garboardlaw06.RandSources', WHERE WHAT IT READS IS OF BULK AT MOST 1048576: true; the input reads as it did. -/
def randSourcesUptoRow : OpenClaim := { program := "ytfednkacmmblpaa", sum := "93c71f22e16f5827f257421f969d5f53272998e4cd233812a0a43a4675aafcbd", func := "garboard/garboardlaw06.RandSources", spec := "randSources", apart := false, narrowed := true }
def RandSourcesUptoSaid : Prop := randSourcesUptoRow.holds Try.pinned (OpenSpec.upto randSourcesSpec)

end Rows
end Go.Proofs.Ytfednkacmmblpaa
