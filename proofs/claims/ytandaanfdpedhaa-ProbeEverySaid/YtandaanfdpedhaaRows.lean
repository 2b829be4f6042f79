/-
  No cell of these rows narrows 'for every input' (looked for: loops, veiled, ifaces, maps, wideKeys, modest, calm, conditions, laid).
  DERIVED. THE GIVEN ROWS OF THIS SEAT. 4 by the template 'for every input the law returns true; each argument reads behind the call as it read before'; 0 by the template 'total and deterministic' (their statements: YtandaanfdpedhaaTotals.lean).
  GIVEN WITH THE SEED: the statements are not yours to turn. If you find one false, say at which input.
  Laid BY PROGRAM, IN A SANDBOX (cutbox-rows.mjs): the forced cells as the released guide's own fill.sh prints them over the translation aeeee833d56cb929… (all of the seat's roots in one cut). By AI agents, Wed Nov 11 2026. No macro, syntax, notation, axiom, sorry.
-/
import Derived.Test.YtandaanfdpedhaaChecked
import GoSem.Claim
import GoSem.ClaimJoined
import GoSem.ClaimMapViews
import Derived.JoinedTies
import Derived.KernelRfl
namespace Go.Proofs.Ytandaanfdpedhaa
/- THE CELL 'sum', in the pinned program and in every row, IS THE sha256 OF THE DUMP (.gsa) THAT YtandaanfdpedhaaProg.lean LOADS. Nothing in Lean hashes anything: it is a label: what it is worth is what the hold of that sum in a sandbox is worth. -/
noncomputable def Try.pinned : Pinned := { name := "ytandaanfdpedhaa", sum := "aeeee833d56cb929040e56d0eacfbbaf5516dc68ca2e3cddaaa88837408ed36b", checked := Try.checked }
namespace Rows
def none {H : Type} : Left H := { results := [], args := [] }

/-- 'garboardlaw23.ProbeEvery': WHATEVER THE INPUT: true; the input reads as it did. -/
def probeEverySpec : ChangeSpec := { name := "probeEvery", fn := fun _ => fun
  | [d1, d2] => { results := [.lit (.bool true)], args := [d1, d2] }
  | _ => none }
def probeEveryRow : OpenClaim := { program := "ytandaanfdpedhaa", sum := "aeeee833d56cb929040e56d0eacfbbaf5516dc68ca2e3cddaaa88837408ed36b", func := "garboard/garboardlaw23.ProbeEvery", spec := "probeEvery", apart := false }
def ProbeEverySaid : Prop := probeEveryRow.holds Try.pinned (OpenSpec.ofChange probeEverySpec)

/-- ITS FALSE NEIGHBOUR: 'it returns false'. Refute it at one input. -/
def probeEveryWrong : ChangeSpec := { name := "probeEvery", fn := fun _ => fun
  | [d1, d2] => { results := [.lit (.bool false)], args := [d1, d2] }
  | _ => none }
def ProbeEveryWrongFalsely : Prop := probeEveryRow.holds Try.pinned (OpenSpec.ofChange probeEveryWrong)

/-- 'garboardlaw23.ProbeUp': WHATEVER THE INPUT: true; the input reads as it did. -/
def probeUpSpec : ChangeSpec := { name := "probeUp", fn := fun _ => fun
  | [d1, d2] => { results := [.lit (.bool true)], args := [d1, d2] }
  | _ => none }
def probeUpRow : OpenClaim := { program := "ytandaanfdpedhaa", sum := "aeeee833d56cb929040e56d0eacfbbaf5516dc68ca2e3cddaaa88837408ed36b", func := "garboard/garboardlaw23.ProbeUp", spec := "probeUp", apart := false }
def ProbeUpSaid : Prop := probeUpRow.holds Try.pinned (OpenSpec.ofChange probeUpSpec)

/-- ITS FALSE NEIGHBOUR: 'it returns false'. Refute it at one input. -/
def probeUpWrong : ChangeSpec := { name := "probeUp", fn := fun _ => fun
  | [d1, d2] => { results := [.lit (.bool false)], args := [d1, d2] }
  | _ => none }
def ProbeUpWrongFalsely : Prop := probeUpRow.holds Try.pinned (OpenSpec.ofChange probeUpWrong)

/-- 'garboardlaw23.ProbePlays': WHATEVER THE INPUT: true; the input reads as it did. -/
def probePlaysSpec : ChangeSpec := { name := "probePlays", fn := fun _ => fun
  | [d1, d2] => { results := [.lit (.bool true)], args := [d1, d2] }
  | _ => none }
def probePlaysRow : OpenClaim := { program := "ytandaanfdpedhaa", sum := "aeeee833d56cb929040e56d0eacfbbaf5516dc68ca2e3cddaaa88837408ed36b", func := "garboard/garboardlaw23.ProbePlays", spec := "probePlays", apart := false }
def ProbePlaysSaid : Prop := probePlaysRow.holds Try.pinned (OpenSpec.ofChange probePlaysSpec)

/-- ITS FALSE NEIGHBOUR: 'it returns false'. Refute it at one input. -/
def probePlaysWrong : ChangeSpec := { name := "probePlays", fn := fun _ => fun
  | [d1, d2] => { results := [.lit (.bool false)], args := [d1, d2] }
  | _ => none }
def ProbePlaysWrongFalsely : Prop := probePlaysRow.holds Try.pinned (OpenSpec.ofChange probePlaysWrong)

/-- 'garboardlaw23.ProbeNobody': WHATEVER THE INPUT: true; the input reads as it did. -/
def probeNobodySpec : ChangeSpec := { name := "probeNobody", fn := fun _ => fun
  | [d] => { results := [.lit (.bool true)], args := [d] }
  | _ => none }
def probeNobodyRow : OpenClaim := { program := "ytandaanfdpedhaa", sum := "aeeee833d56cb929040e56d0eacfbbaf5516dc68ca2e3cddaaa88837408ed36b", func := "garboard/garboardlaw23.ProbeNobody", spec := "probeNobody", apart := false }
def ProbeNobodySaid : Prop := probeNobodyRow.holds Try.pinned (OpenSpec.ofChange probeNobodySpec)

/-- ITS FALSE NEIGHBOUR: 'it returns false'. Refute it at one input. -/
def probeNobodyWrong : ChangeSpec := { name := "probeNobody", fn := fun _ => fun
  | [d] => { results := [.lit (.bool false)], args := [d] }
  | _ => none }
def ProbeNobodyWrongFalsely : Prop := probeNobodyRow.holds Try.pinned (OpenSpec.ofChange probeNobodyWrong)

/- THE SECOND FORM. 'bulk': how many values and letters a reading holds, each counted each time it is reached (what is shared counts as often as it is met; a slice's spare places count too). A statement '..UptoSaid' is the law's where the arguments, and the package variables that the reading takes, are together of bulk at most 1048576: NARROWER than '..Said'. Prove '..Said' where nothing that the law and all that it calls make is longer than what came in: it says more and counts as full. Else prove '..UptoSaid'. A law counts once. -/
mutual
def uptoBulk {H : Type} : DataW H → Nat
  | .lit (.string bytes) => bytes.length + 1
  | .lit _ => 1
  | .nil => 1
  | .ptr d => uptoBulk d + 1
  | .slice elems spare => uptoBulkAll elems + uptoBulkAll spare + 1
  | .agg parts => uptoBulkAll parts + 1
  | .iface _ d => uptoBulk d + 1
  | .map entries => uptoBulkEntries entries + 1
  | .held _ => 1
def uptoBulkAll {H : Type} : List (DataW H) → Nat
  | [] => 0
  | d :: r => uptoBulk d + uptoBulkAll r
def uptoBulkEntries {H : Type} : List (Lit × DataW H) → Nat
  | [] => 0
  | x :: r => uptoBulkEntry x + uptoBulkEntries r
def uptoBulkEntry {H : Type} : Lit × DataW H → Nat
  | (.string bytes, d) => bytes.length + uptoBulk d + 1
  | (_, d) => uptoBulk d + 1
 end
def uptoSmall : (H : Type) → List (DataW H) → Bool := fun _ ds => decide (uptoBulkAll ds ≤ 1048576)
def OpenSpec.upto (s : _root_.Go.ChangeSpec) : _root_.Go.OpenSpec := { _root_.Go.OpenSpec.ofChange s with cond := some uptoSmall }

/-- 'garboardlaw23.ProbeEvery', WHERE WHAT IT READS IS OF BULK AT MOST 1048576: true; the input reads as it did. -/
def probeEveryUptoRow : OpenClaim := { program := "ytandaanfdpedhaa", sum := "aeeee833d56cb929040e56d0eacfbbaf5516dc68ca2e3cddaaa88837408ed36b", func := "garboard/garboardlaw23.ProbeEvery", spec := "probeEvery", apart := false, narrowed := true }
def ProbeEveryUptoSaid : Prop := probeEveryUptoRow.holds Try.pinned (OpenSpec.upto probeEverySpec)

/-- 'garboardlaw23.ProbeUp', WHERE WHAT IT READS IS OF BULK AT MOST 1048576: true; the input reads as it did. -/
def probeUpUptoRow : OpenClaim := { program := "ytandaanfdpedhaa", sum := "aeeee833d56cb929040e56d0eacfbbaf5516dc68ca2e3cddaaa88837408ed36b", func := "garboard/garboardlaw23.ProbeUp", spec := "probeUp", apart := false, narrowed := true }
def ProbeUpUptoSaid : Prop := probeUpUptoRow.holds Try.pinned (OpenSpec.upto probeUpSpec)

/-- 'garboardlaw23.ProbePlays', WHERE WHAT IT READS IS OF BULK AT MOST 1048576: true; the input reads as it did. -/
def probePlaysUptoRow : OpenClaim := { program := "ytandaanfdpedhaa", sum := "aeeee833d56cb929040e56d0eacfbbaf5516dc68ca2e3cddaaa88837408ed36b", func := "garboard/garboardlaw23.ProbePlays", spec := "probePlays", apart := false, narrowed := true }
def ProbePlaysUptoSaid : Prop := probePlaysUptoRow.holds Try.pinned (OpenSpec.upto probePlaysSpec)

/-- 'garboardlaw23.ProbeNobody', WHERE WHAT IT READS IS OF BULK AT MOST 1048576: true; the input reads as it did. -/
def probeNobodyUptoRow : OpenClaim := { program := "ytandaanfdpedhaa", sum := "aeeee833d56cb929040e56d0eacfbbaf5516dc68ca2e3cddaaa88837408ed36b", func := "garboard/garboardlaw23.ProbeNobody", spec := "probeNobody", apart := false, narrowed := true }
def ProbeNobodyUptoSaid : Prop := probeNobodyUptoRow.holds Try.pinned (OpenSpec.upto probeNobodySpec)

end Rows
end Go.Proofs.Ytandaanfdpedhaa
