/-
  No cell of these rows narrows 'for every input' (looked for: loops, veiled, ifaces, maps, wideKeys, modest, calm, conditions, laid).
  DERIVED. THE GIVEN ROWS OF THIS SEAT. 4 by the template 'for every input the law returns true; each argument reads behind the call as it read before'; 0 by the template 'total and deterministic' (their statements: YtoghkikjgilpdaaTotals.lean).
  GIVEN WITH THE SEED: the statements are not yours to turn. If you find one false, say at which input.
  Laid BY PROGRAM, IN A SANDBOX (cutbox-rows.mjs): the forced cells as the released guide's own fill.sh prints them over the translation 9db388f233368624… (all of the seat's roots in one cut). By AI agents, Wed Nov 11 2026. No macro, syntax, notation, axiom, sorry.
-/
import Derived.Test.YtoghkikjgilpdaaChecked
import GoSem.Claim
import GoSem.ClaimJoined
import GoSem.ClaimMapViews
import Derived.JoinedTies
import Derived.KernelRfl
namespace Go.Proofs.Ytoghkikjgilpdaa
/- THE CELL 'sum', in the pinned program and in every row, IS THE sha256 OF THE DUMP (.gsa) THAT YtoghkikjgilpdaaProg.lean LOADS. Nothing in Lean hashes anything: it is a label: what it is worth is what the hold of that sum in a sandbox is worth. -/
noncomputable def Try.pinned : Pinned := { name := "ytoghkikjgilpdaa", sum := "9db388f233368624dbb24d1e21ec65f8f4def9186a0d153295934a6c4c7facca", checked := Try.checked }
namespace Rows
def none {H : Type} : Left H := { results := [], args := [] }

/-- 'garboardlaw28.ClientRef': WHATEVER THE INPUT: true; the input reads as it did. -/
def clientRefSpec : ChangeSpec := { name := "clientRef", fn := fun _ => fun
  | [d1, d2] => { results := [.lit (.bool true)], args := [d1, d2] }
  | _ => none }
def clientRefRow : OpenClaim := { program := "ytoghkikjgilpdaa", sum := "9db388f233368624dbb24d1e21ec65f8f4def9186a0d153295934a6c4c7facca", func := "garboard/garboardlaw28.ClientRef", spec := "clientRef", unfollowed := true, recurses := true, apart := false }
def ClientRefSaid : Prop := clientRefRow.holds Try.pinned (OpenSpec.ofChange clientRefSpec)

/-- ITS FALSE NEIGHBOUR: 'it returns false'. Refute it at one input. -/
def clientRefWrong : ChangeSpec := { name := "clientRef", fn := fun _ => fun
  | [d1, d2] => { results := [.lit (.bool false)], args := [d1, d2] }
  | _ => none }
def ClientRefWrongFalsely : Prop := clientRefRow.holds Try.pinned (OpenSpec.ofChange clientRefWrong)

/-- 'garboardlaw28.ClientGrows': WHATEVER THE INPUT: true; the input reads as it did. -/
def clientGrowsSpec : ChangeSpec := { name := "clientGrows", fn := fun _ => fun
  | [d1, d2] => { results := [.lit (.bool true)], args := [d1, d2] }
  | _ => none }
def clientGrowsRow : OpenClaim := { program := "ytoghkikjgilpdaa", sum := "9db388f233368624dbb24d1e21ec65f8f4def9186a0d153295934a6c4c7facca", func := "garboard/garboardlaw28.ClientGrows", spec := "clientGrows", unfollowed := true, recurses := true, apart := false }
def ClientGrowsSaid : Prop := clientGrowsRow.holds Try.pinned (OpenSpec.ofChange clientGrowsSpec)

/-- ITS FALSE NEIGHBOUR: 'it returns false'. Refute it at one input. -/
def clientGrowsWrong : ChangeSpec := { name := "clientGrows", fn := fun _ => fun
  | [d1, d2] => { results := [.lit (.bool false)], args := [d1, d2] }
  | _ => none }
def ClientGrowsWrongFalsely : Prop := clientGrowsRow.holds Try.pinned (OpenSpec.ofChange clientGrowsWrong)

/-- 'garboardlaw28.ClientPlays': WHATEVER THE INPUT: true; the input reads as it did. -/
def clientPlaysSpec : ChangeSpec := { name := "clientPlays", fn := fun _ => fun
  | [d1, d2, d3] => { results := [.lit (.bool true)], args := [d1, d2, d3] }
  | _ => none }
def clientPlaysRow : OpenClaim := { program := "ytoghkikjgilpdaa", sum := "9db388f233368624dbb24d1e21ec65f8f4def9186a0d153295934a6c4c7facca", func := "garboard/garboardlaw28.ClientPlays", spec := "clientPlays", unfollowed := true, recurses := true, apart := false }
def ClientPlaysSaid : Prop := clientPlaysRow.holds Try.pinned (OpenSpec.ofChange clientPlaysSpec)

/-- ITS FALSE NEIGHBOUR: 'it returns false'. Refute it at one input. -/
def clientPlaysWrong : ChangeSpec := { name := "clientPlays", fn := fun _ => fun
  | [d1, d2, d3] => { results := [.lit (.bool false)], args := [d1, d2, d3] }
  | _ => none }
def ClientPlaysWrongFalsely : Prop := clientPlaysRow.holds Try.pinned (OpenSpec.ofChange clientPlaysWrong)

/-- 'garboardlaw28.ClientTells': WHATEVER THE INPUT: true; the input reads as it did. -/
def clientTellsSpec : ChangeSpec := { name := "clientTells", fn := fun _ => fun
  | [d1, d2, d3] => { results := [.lit (.bool true)], args := [d1, d2, d3] }
  | _ => none }
def clientTellsRow : OpenClaim := { program := "ytoghkikjgilpdaa", sum := "9db388f233368624dbb24d1e21ec65f8f4def9186a0d153295934a6c4c7facca", func := "garboard/garboardlaw28.ClientTells", spec := "clientTells", unfollowed := true, recurses := true, apart := false }
def ClientTellsSaid : Prop := clientTellsRow.holds Try.pinned (OpenSpec.ofChange clientTellsSpec)

/-- ITS FALSE NEIGHBOUR: 'it returns false'. Refute it at one input. -/
def clientTellsWrong : ChangeSpec := { name := "clientTells", fn := fun _ => fun
  | [d1, d2, d3] => { results := [.lit (.bool false)], args := [d1, d2, d3] }
  | _ => none }
def ClientTellsWrongFalsely : Prop := clientTellsRow.holds Try.pinned (OpenSpec.ofChange clientTellsWrong)

/- THE SECOND FORM. 'bulk': how many values and letters a reading holds, each counted each time it is reached (what is shared counts as often as it is met; a slice's spare places count too). A statement '..UptoSaid' is the law's where the arguments, and the package variables that the reading takes, are together of bulk at most 1048576: NARROWER than '..Said'. Prove '..Said' where nothing that the law and all that it calls make is longer than what came in: it says more and counts as full. Else prove '..UptoSaid'. A law counts once. -/
mutual
def uptoBulk {H : Type} : DataW H → Nat
  | .lit (.string bytes) => bytes.length + 1
  | .lit _ => 1
  | .nil => 1
  | .ptr d => uptoBulk d + 1
  | .slice elems spare => uptoBulkAll elems + uptoBulkAll spare + 1
  | .agg parts => uptoBulkAll parts + 1
  | .iface _ d => uptoBulk d + 1
  | .map entries => uptoBulkEntries entries + 1
  | .held _ => 1
def uptoBulkAll {H : Type} : List (DataW H) → Nat
  | [] => 0
  | d :: r => uptoBulk d + uptoBulkAll r
def uptoBulkEntries {H : Type} : List (Lit × DataW H) → Nat
  | [] => 0
  | x :: r => uptoBulkEntry x + uptoBulkEntries r
def uptoBulkEntry {H : Type} : Lit × DataW H → Nat
  | (.string bytes, d) => bytes.length + uptoBulk d + 1
  | (_, d) => uptoBulk d + 1
 end
def uptoSmall : (H : Type) → List (DataW H) → Bool := fun _ ds => decide (uptoBulkAll ds ≤ 1048576)
def OpenSpec.upto (s : _root_.Go.ChangeSpec) : _root_.Go.OpenSpec := { _root_.Go.OpenSpec.ofChange s with cond := some uptoSmall }

/-- 'garboardlaw28.ClientRef', WHERE WHAT IT READS IS OF BULK AT MOST 1048576: true; the input reads as it did. -/
def clientRefUptoRow : OpenClaim := { program := "ytoghkikjgilpdaa", sum := "9db388f233368624dbb24d1e21ec65f8f4def9186a0d153295934a6c4c7facca", func := "garboard/garboardlaw28.ClientRef", spec := "clientRef", unfollowed := true, recurses := true, apart := false, narrowed := true }
def ClientRefUptoSaid : Prop := clientRefUptoRow.holds Try.pinned (OpenSpec.upto clientRefSpec)

/-- 'garboardlaw28.ClientGrows', WHERE WHAT IT READS IS OF BULK AT MOST 1048576: true; the input reads as it did. -/
def clientGrowsUptoRow : OpenClaim := { program := "ytoghkikjgilpdaa", sum := "9db388f233368624dbb24d1e21ec65f8f4def9186a0d153295934a6c4c7facca", func := "garboard/garboardlaw28.ClientGrows", spec := "clientGrows", unfollowed := true, recurses := true, apart := false, narrowed := true }
def ClientGrowsUptoSaid : Prop := clientGrowsUptoRow.holds Try.pinned (OpenSpec.upto clientGrowsSpec)

/-- 'garboardlaw28.ClientPlays', WHERE WHAT IT READS IS OF BULK AT MOST 1048576: true; the input reads as it did. -/
def clientPlaysUptoRow : OpenClaim := { program := "ytoghkikjgilpdaa", sum := "9db388f233368624dbb24d1e21ec65f8f4def9186a0d153295934a6c4c7facca", func := "garboard/garboardlaw28.ClientPlays", spec := "clientPlays", unfollowed := true, recurses := true, apart := false, narrowed := true }
def ClientPlaysUptoSaid : Prop := clientPlaysUptoRow.holds Try.pinned (OpenSpec.upto clientPlaysSpec)

/-- 'garboardlaw28.ClientTells', WHERE WHAT IT READS IS OF BULK AT MOST 1048576: true; the input reads as it did. -/
def clientTellsUptoRow : OpenClaim := { program := "ytoghkikjgilpdaa", sum := "9db388f233368624dbb24d1e21ec65f8f4def9186a0d153295934a6c4c7facca", func := "garboard/garboardlaw28.ClientTells", spec := "clientTells", unfollowed := true, recurses := true, apart := false, narrowed := true }
def ClientTellsUptoSaid : Prop := clientTellsUptoRow.holds Try.pinned (OpenSpec.upto clientTellsSpec)

end Rows
end Go.Proofs.Ytoghkikjgilpdaa
