/-
  No cell of these rows narrows 'for every input' (looked for: loops, veiled, ifaces, maps, wideKeys, modest, calm, conditions, laid).
  DERIVED. THE GIVEN ROWS OF THIS SEAT. 3 by the template 'for every input the law returns true; each argument reads behind the call as it read before'; 0 by the template 'total and deterministic' (their statements: YtnppiclmohadfaaTotals.lean).
  GIVEN WITH THE SEED: the statements are not yours to turn. If you find one false, say at which input.
  Laid BY PROGRAM, IN A SANDBOX (cutbox-rows.mjs): the forced cells as the released guide's own fill.sh prints them over the translation d345814549fcdded… (all of the seat's roots in one cut). By AI agents, Wed Nov 11 2026. No macro, syntax, notation, axiom, sorry.
-/
import Derived.Test.YtnppiclmohadfaaChecked
import GoSem.Claim
import GoSem.ClaimJoined
import GoSem.ClaimMapViews
import Derived.JoinedTies
import Derived.KernelRfl
namespace Go.Proofs.Ytnppiclmohadfaa
/- THE CELL 'sum', in the pinned program and in every row, IS THE sha256 OF THE DUMP (.gsa) THAT YtnppiclmohadfaaProg.lean LOADS. Nothing in Lean hashes anything: it is a label: what it is worth is what the hold of that sum in a sandbox is worth. -/
noncomputable def Try.pinned : Pinned := { name := "ytnppiclmohadfaa", sum := "d345814549fcdded871e0481281b380cc9be669b08fe5dfaf574e9c44dbb06b0", checked := Try.checked }
namespace Rows
def none {H : Type} : Left H := { results := [], args := [] }

/-- 'switchbacklaw15.VersionPrunes': WHATEVER THE INPUT: true; the input reads as it did. -/
def versionPrunesSpec : ChangeSpec := { name := "versionPrunes", fn := fun _ => fun
  | [d1, d2, d3, d4] => { results := [.lit (.bool true)], args := [d1, d2, d3, d4] }
  | _ => none }
def versionPrunesRow : OpenClaim := { program := "ytnppiclmohadfaa", sum := "d345814549fcdded871e0481281b380cc9be669b08fe5dfaf574e9c44dbb06b0", func := "switchback/switchbacklaw15.VersionPrunes", spec := "versionPrunes", unfollowed := true, recurses := true, apart := false }
def VersionPrunesSaid : Prop := versionPrunesRow.holds Try.pinned (OpenSpec.ofChange versionPrunesSpec)

/-- ITS FALSE NEIGHBOUR: 'it returns false'. Refute it at one input. -/
def versionPrunesWrong : ChangeSpec := { name := "versionPrunes", fn := fun _ => fun
  | [d1, d2, d3, d4] => { results := [.lit (.bool false)], args := [d1, d2, d3, d4] }
  | _ => none }
def VersionPrunesWrongFalsely : Prop := versionPrunesRow.holds Try.pinned (OpenSpec.ofChange versionPrunesWrong)

/-- 'switchbacklaw15.VersionBack': WHATEVER THE INPUT: true; the input reads as it did. -/
def versionBackSpec : ChangeSpec := { name := "versionBack", fn := fun _ => fun
  | [d1, d2, d3, d4, d5] => { results := [.lit (.bool true)], args := [d1, d2, d3, d4, d5] }
  | _ => none }
def versionBackRow : OpenClaim := { program := "ytnppiclmohadfaa", sum := "d345814549fcdded871e0481281b380cc9be669b08fe5dfaf574e9c44dbb06b0", func := "switchback/switchbacklaw15.VersionBack", spec := "versionBack", inPlace := ["slices.overlaps[switchback/version.Version]"], apart := false }
def VersionBackSaid : Prop := versionBackRow.holds Try.pinned (OpenSpec.ofChange versionBackSpec)

/-- ITS FALSE NEIGHBOUR: 'it returns false'. Refute it at one input. -/
def versionBackWrong : ChangeSpec := { name := "versionBack", fn := fun _ => fun
  | [d1, d2, d3, d4, d5] => { results := [.lit (.bool false)], args := [d1, d2, d3, d4, d5] }
  | _ => none }
def VersionBackWrongFalsely : Prop := versionBackRow.holds Try.pinned (OpenSpec.ofChange versionBackWrong)

/-- 'switchbacklaw15.VersionFirst': WHATEVER THE INPUT: true; the input reads as it did. -/
def versionFirstSpec : ChangeSpec := { name := "versionFirst", fn := fun _ => fun
  | [d1, d2, d3, d4, d5] => { results := [.lit (.bool true)], args := [d1, d2, d3, d4, d5] }
  | _ => none }
def versionFirstRow : OpenClaim := { program := "ytnppiclmohadfaa", sum := "d345814549fcdded871e0481281b380cc9be669b08fe5dfaf574e9c44dbb06b0", func := "switchback/switchbacklaw15.VersionFirst", spec := "versionFirst", inPlace := ["slices.overlaps[switchback/version.Version]"], apart := false }
def VersionFirstSaid : Prop := versionFirstRow.holds Try.pinned (OpenSpec.ofChange versionFirstSpec)

/-- ITS FALSE NEIGHBOUR: 'it returns false'. Refute it at one input. -/
def versionFirstWrong : ChangeSpec := { name := "versionFirst", fn := fun _ => fun
  | [d1, d2, d3, d4, d5] => { results := [.lit (.bool false)], args := [d1, d2, d3, d4, d5] }
  | _ => none }
def VersionFirstWrongFalsely : Prop := versionFirstRow.holds Try.pinned (OpenSpec.ofChange versionFirstWrong)

/- THE SECOND FORM. 'bulk': how many values and letters a reading holds, each counted each time it is reached (what is shared counts as often as it is met; a slice's spare places count too). A statement '..UptoSaid' is the law's where the arguments, and the package variables that the reading takes, are together of bulk at most 1048576: NARROWER than '..Said'. Prove '..Said' where nothing that the law and all that it calls make is longer than what came in: it says more and counts as full. Else prove '..UptoSaid'. A law counts once. -/
mutual
def uptoBulk {H : Type} : DataW H → Nat
  | .lit (.string bytes) => bytes.length + 1
  | .lit _ => 1
  | .nil => 1
  | .ptr d => uptoBulk d + 1
  | .slice elems spare => uptoBulkAll elems + uptoBulkAll spare + 1
  | .agg parts => uptoBulkAll parts + 1
  | .iface _ d => uptoBulk d + 1
  | .map entries => uptoBulkEntries entries + 1
  | .held _ => 1
def uptoBulkAll {H : Type} : List (DataW H) → Nat
  | [] => 0
  | d :: r => uptoBulk d + uptoBulkAll r
def uptoBulkEntries {H : Type} : List (Lit × DataW H) → Nat
  | [] => 0
  | x :: r => uptoBulkEntry x + uptoBulkEntries r
def uptoBulkEntry {H : Type} : Lit × DataW H → Nat
  | (.string bytes, d) => bytes.length + uptoBulk d + 1
  | (_, d) => uptoBulk d + 1
 end
def uptoSmall : (H : Type) → List (DataW H) → Bool := fun _ ds => decide (uptoBulkAll ds ≤ 1048576)
def OpenSpec.upto (s : _root_.Go.ChangeSpec) : _root_.Go.OpenSpec := { _root_.Go.OpenSpec.ofChange s with cond := some uptoSmall }

/-- 'switchbacklaw15.VersionPrunes', WHERE WHAT IT READS IS OF BULK AT MOST 1048576: true; the input reads as it did. -/
def versionPrunesUptoRow : OpenClaim := { program := "ytnppiclmohadfaa", sum := "d345814549fcdded871e0481281b380cc9be669b08fe5dfaf574e9c44dbb06b0", func := "switchback/switchbacklaw15.VersionPrunes", spec := "versionPrunes", unfollowed := true, recurses := true, apart := false, narrowed := true }
def VersionPrunesUptoSaid : Prop := versionPrunesUptoRow.holds Try.pinned (OpenSpec.upto versionPrunesSpec)

/-- 'switchbacklaw15.VersionBack', WHERE WHAT IT READS IS OF BULK AT MOST 1048576: true; the input reads as it did. -/
def versionBackUptoRow : OpenClaim := { program := "ytnppiclmohadfaa", sum := "d345814549fcdded871e0481281b380cc9be669b08fe5dfaf574e9c44dbb06b0", func := "switchback/switchbacklaw15.VersionBack", spec := "versionBack", inPlace := ["slices.overlaps[switchback/version.Version]"], apart := false, narrowed := true }
def VersionBackUptoSaid : Prop := versionBackUptoRow.holds Try.pinned (OpenSpec.upto versionBackSpec)

/-- 'switchbacklaw15.VersionFirst', WHERE WHAT IT READS IS OF BULK AT MOST 1048576: true; the input reads as it did. -/
def versionFirstUptoRow : OpenClaim := { program := "ytnppiclmohadfaa", sum := "d345814549fcdded871e0481281b380cc9be669b08fe5dfaf574e9c44dbb06b0", func := "switchback/switchbacklaw15.VersionFirst", spec := "versionFirst", inPlace := ["slices.overlaps[switchback/version.Version]"], apart := false, narrowed := true }
def VersionFirstUptoSaid : Prop := versionFirstUptoRow.holds Try.pinned (OpenSpec.upto versionFirstSpec)

end Rows
end Go.Proofs.Ytnppiclmohadfaa
