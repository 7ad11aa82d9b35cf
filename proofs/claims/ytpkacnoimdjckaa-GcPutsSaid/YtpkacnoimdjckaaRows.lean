/-
  No cell of these rows narrows 'for every input' (looked for: loops, veiled, ifaces, maps, wideKeys, modest, calm, conditions, laid).
  DERIVED. THE GIVEN ROWS OF THIS SEAT. 6 by the template 'for every input the law returns true; each argument reads behind the call as it read before'; 0 by the template 'total and deterministic' (their statements: YtpkacnoimdjckaaTotals.lean).
  GIVEN WITH THE SEED: the statements are not yours to turn. If you find one false, say at which input.
  Laid BY PROGRAM, IN A SANDBOX (cutbox-rows.mjs): the forced cells as the released guide's own fill.sh prints them over the translation 115740457bbb0b9e… (all of the seat's roots in one cut). By AI agents, Wed Nov 11 2026. No macro, syntax, notation, axiom, sorry.
-/
import Derived.Test.YtpkacnoimdjckaaChecked
import GoSem.Claim
import GoSem.ClaimJoined
import GoSem.ClaimMapViews
import Derived.JoinedTies
import Derived.KernelRfl
namespace Go.Proofs.Ytpkacnoimdjckaa
/- THE CELL 'sum', in the pinned program and in every row, IS THE sha256 OF THE DUMP (.gsa) THAT YtpkacnoimdjckaaProg.lean LOADS. Nothing in Lean hashes anything: it is a label: what it is worth is what the hold of that sum in a sandbox is worth. -/
noncomputable def Try.pinned : Pinned := { name := "ytpkacnoimdjckaa", sum := "115740457bbb0b9ef32a0e797952988439940afb8cde5d4c21aef712407f730d", checked := Try.checked }
namespace Rows
def none {H : Type} : Left H := { results := [], args := [] }

/-- 'switchbacklaw18.GcPuts': WHATEVER THE INPUT: true; the input reads as it did. -/
def gcPutsSpec : ChangeSpec := { name := "gcPuts", fn := fun _ => fun
  | [d1, d2, d3, d4, d5, d6] => { results := [.lit (.bool true)], args := [d1, d2, d3, d4, d5, d6] }
  | _ => none }
def gcPutsRow : OpenClaim := { program := "ytpkacnoimdjckaa", sum := "115740457bbb0b9ef32a0e797952988439940afb8cde5d4c21aef712407f730d", func := "switchback/switchbacklaw18.GcPuts", spec := "gcPuts", inPlace := ["slices.overlaps[switchback/version.Version]", "slices.overlaps[string]", "slices.overlaps[[]switchback/version.Version]"], unfollowed := true, recurses := true, apart := false }
def GcPutsSaid : Prop := gcPutsRow.holds Try.pinned (OpenSpec.ofChange gcPutsSpec)

/-- ITS FALSE NEIGHBOUR: 'it returns false'. Refute it at one input. -/
def gcPutsWrong : ChangeSpec := { name := "gcPuts", fn := fun _ => fun
  | [d1, d2, d3, d4, d5, d6] => { results := [.lit (.bool false)], args := [d1, d2, d3, d4, d5, d6] }
  | _ => none }
def GcPutsWrongFalsely : Prop := gcPutsRow.holds Try.pinned (OpenSpec.ofChange gcPutsWrong)

/-- 'switchbacklaw18.GcLast': WHATEVER THE INPUT: true; the input reads as it did. -/
def gcLastSpec : ChangeSpec := { name := "gcLast", fn := fun _ => fun
  | [d] => { results := [.lit (.bool true)], args := [d] }
  | _ => none }
def gcLastRow : OpenClaim := { program := "ytpkacnoimdjckaa", sum := "115740457bbb0b9ef32a0e797952988439940afb8cde5d4c21aef712407f730d", func := "switchback/switchbacklaw18.GcLast", spec := "gcLast", inPlace := ["slices.overlaps[switchback/version.Version]", "slices.overlaps[string]", "slices.overlaps[[]switchback/version.Version]"], unfollowed := true, recurses := true, apart := false }
def GcLastSaid : Prop := gcLastRow.holds Try.pinned (OpenSpec.ofChange gcLastSpec)

/-- ITS FALSE NEIGHBOUR: 'it returns false'. Refute it at one input. -/
def gcLastWrong : ChangeSpec := { name := "gcLast", fn := fun _ => fun
  | [d] => { results := [.lit (.bool false)], args := [d] }
  | _ => none }
def GcLastWrongFalsely : Prop := gcLastRow.holds Try.pinned (OpenSpec.ofChange gcLastWrong)

/-- 'switchbacklaw18.GcSweeps': WHATEVER THE INPUT: true; the input reads as it did. -/
def gcSweepsSpec : ChangeSpec := { name := "gcSweeps", fn := fun _ => fun
  | [d1, d2, d3, d4] => { results := [.lit (.bool true)], args := [d1, d2, d3, d4] }
  | _ => none }
def gcSweepsRow : OpenClaim := { program := "ytpkacnoimdjckaa", sum := "115740457bbb0b9ef32a0e797952988439940afb8cde5d4c21aef712407f730d", func := "switchback/switchbacklaw18.GcSweeps", spec := "gcSweeps", inPlace := ["slices.overlaps[switchback/version.Version]", "slices.overlaps[string]", "slices.overlaps[[]switchback/version.Version]"], unfollowed := true, recurses := true, apart := false }
def GcSweepsSaid : Prop := gcSweepsRow.holds Try.pinned (OpenSpec.ofChange gcSweepsSpec)

/-- ITS FALSE NEIGHBOUR: 'it returns false'. Refute it at one input. -/
def gcSweepsWrong : ChangeSpec := { name := "gcSweeps", fn := fun _ => fun
  | [d1, d2, d3, d4] => { results := [.lit (.bool false)], args := [d1, d2, d3, d4] }
  | _ => none }
def GcSweepsWrongFalsely : Prop := gcSweepsRow.holds Try.pinned (OpenSpec.ofChange gcSweepsWrong)

/-- 'switchbacklaw18.GcTells': WHATEVER THE INPUT: true; the input reads as it did. -/
def gcTellsSpec : ChangeSpec := { name := "gcTells", fn := fun _ => fun
  | [d1, d2, d3, d4, d5] => { results := [.lit (.bool true)], args := [d1, d2, d3, d4, d5] }
  | _ => none }
def gcTellsRow : OpenClaim := { program := "ytpkacnoimdjckaa", sum := "115740457bbb0b9ef32a0e797952988439940afb8cde5d4c21aef712407f730d", func := "switchback/switchbacklaw18.GcTells", spec := "gcTells", inPlace := ["slices.overlaps[switchback/version.Version]", "slices.overlaps[string]", "slices.overlaps[[]switchback/version.Version]"], unfollowed := true, recurses := true, apart := false }
def GcTellsSaid : Prop := gcTellsRow.holds Try.pinned (OpenSpec.ofChange gcTellsSpec)

/-- ITS FALSE NEIGHBOUR: 'it returns false'. Refute it at one input. -/
def gcTellsWrong : ChangeSpec := { name := "gcTells", fn := fun _ => fun
  | [d1, d2, d3, d4, d5] => { results := [.lit (.bool false)], args := [d1, d2, d3, d4, d5] }
  | _ => none }
def GcTellsWrongFalsely : Prop := gcTellsRow.holds Try.pinned (OpenSpec.ofChange gcTellsWrong)

/-- 'switchbacklaw18.GcKeys': WHATEVER THE INPUT: true; the input reads as it did. -/
def gcKeysSpec : ChangeSpec := { name := "gcKeys", fn := fun _ => fun
  | [d1, d2, d3, d4, d5] => { results := [.lit (.bool true)], args := [d1, d2, d3, d4, d5] }
  | _ => none }
def gcKeysRow : OpenClaim := { program := "ytpkacnoimdjckaa", sum := "115740457bbb0b9ef32a0e797952988439940afb8cde5d4c21aef712407f730d", func := "switchback/switchbacklaw18.GcKeys", spec := "gcKeys", inPlace := ["slices.overlaps[switchback/version.Version]", "slices.overlaps[string]", "slices.overlaps[[]switchback/version.Version]"], unfollowed := true, recurses := true, apart := false }
def GcKeysSaid : Prop := gcKeysRow.holds Try.pinned (OpenSpec.ofChange gcKeysSpec)

/-- ITS FALSE NEIGHBOUR: 'it returns false'. Refute it at one input. -/
def gcKeysWrong : ChangeSpec := { name := "gcKeys", fn := fun _ => fun
  | [d1, d2, d3, d4, d5] => { results := [.lit (.bool false)], args := [d1, d2, d3, d4, d5] }
  | _ => none }
def GcKeysWrongFalsely : Prop := gcKeysRow.holds Try.pinned (OpenSpec.ofChange gcKeysWrong)

/-- 'switchbacklaw18.GcUndoes': WHATEVER THE INPUT: true; the input reads as it did. -/
def gcUndoesSpec : ChangeSpec := { name := "gcUndoes", fn := fun _ => fun
  | [d1, d2, d3, d4, d5] => { results := [.lit (.bool true)], args := [d1, d2, d3, d4, d5] }
  | _ => none }
def gcUndoesRow : OpenClaim := { program := "ytpkacnoimdjckaa", sum := "115740457bbb0b9ef32a0e797952988439940afb8cde5d4c21aef712407f730d", func := "switchback/switchbacklaw18.GcUndoes", spec := "gcUndoes", inPlace := ["slices.overlaps[switchback/version.Version]", "slices.overlaps[string]", "slices.overlaps[[]switchback/version.Version]"], unfollowed := true, recurses := true, apart := false }
def GcUndoesSaid : Prop := gcUndoesRow.holds Try.pinned (OpenSpec.ofChange gcUndoesSpec)

/-- ITS FALSE NEIGHBOUR: 'it returns false'. Refute it at one input. -/
def gcUndoesWrong : ChangeSpec := { name := "gcUndoes", fn := fun _ => fun
  | [d1, d2, d3, d4, d5] => { results := [.lit (.bool false)], args := [d1, d2, d3, d4, d5] }
  | _ => none }
def GcUndoesWrongFalsely : Prop := gcUndoesRow.holds Try.pinned (OpenSpec.ofChange gcUndoesWrong)

/- THE SECOND FORM. 'bulk': how many values and letters a reading holds, each counted each time it is reached (what is shared counts as often as it is met; a slice's spare places count too). A statement '..UptoSaid' is the law's where the arguments, and the package variables that the reading takes, are together of bulk at most 1048576: NARROWER than '..Said'. Prove '..Said' where nothing that the law and all that it calls make is longer than what came in: it says more and counts as full. Else prove '..UptoSaid'. A law counts once. -/
mutual
def uptoBulk {H : Type} : DataW H → Nat
  | .lit (.string bytes) => bytes.length + 1
  | .lit _ => 1
  | .nil => 1
  | .ptr d => uptoBulk d + 1
  | .slice elems spare => uptoBulkAll elems + uptoBulkAll spare + 1
  | .agg parts => uptoBulkAll parts + 1
  | .iface _ d => uptoBulk d + 1
  | .map entries => uptoBulkEntries entries + 1
  | .held _ => 1
def uptoBulkAll {H : Type} : List (DataW H) → Nat
  | [] => 0
  | d :: r => uptoBulk d + uptoBulkAll r
def uptoBulkEntries {H : Type} : List (Lit × DataW H) → Nat
  | [] => 0
  | x :: r => uptoBulkEntry x + uptoBulkEntries r
def uptoBulkEntry {H : Type} : Lit × DataW H → Nat
  | (.string bytes, d) => bytes.length + uptoBulk d + 1
  | (_, d) => uptoBulk d + 1
 end
def uptoSmall : (H : Type) → List (DataW H) → Bool := fun _ ds => decide (uptoBulkAll ds ≤ 1048576)
def OpenSpec.upto (s : _root_.Go.ChangeSpec) : _root_.Go.OpenSpec := { _root_.Go.OpenSpec.ofChange s with cond := some uptoSmall }

/-- 'switchbacklaw18.GcPuts', WHERE WHAT IT READS IS OF BULK AT MOST 1048576: true; the input reads as it did. -/
def gcPutsUptoRow : OpenClaim := { program := "ytpkacnoimdjckaa", sum := "115740457bbb0b9ef32a0e797952988439940afb8cde5d4c21aef712407f730d", func := "switchback/switchbacklaw18.GcPuts", spec := "gcPuts", inPlace := ["slices.overlaps[switchback/version.Version]", "slices.overlaps[string]", "slices.overlaps[[]switchback/version.Version]"], unfollowed := true, recurses := true, apart := false, narrowed := true }
def GcPutsUptoSaid : Prop := gcPutsUptoRow.holds Try.pinned (OpenSpec.upto gcPutsSpec)

/-- 'switchbacklaw18.GcLast', WHERE WHAT IT READS IS OF BULK AT MOST 1048576: true; the input reads as it did. -/
def gcLastUptoRow : OpenClaim := { program := "ytpkacnoimdjckaa", sum := "115740457bbb0b9ef32a0e797952988439940afb8cde5d4c21aef712407f730d", func := "switchback/switchbacklaw18.GcLast", spec := "gcLast", inPlace := ["slices.overlaps[switchback/version.Version]", "slices.overlaps[string]", "slices.overlaps[[]switchback/version.Version]"], unfollowed := true, recurses := true, apart := false, narrowed := true }
def GcLastUptoSaid : Prop := gcLastUptoRow.holds Try.pinned (OpenSpec.upto gcLastSpec)

/-- 'switchbacklaw18.GcSweeps', WHERE WHAT IT READS IS OF BULK AT MOST 1048576: true; the input reads as it did. -/
def gcSweepsUptoRow : OpenClaim := { program := "ytpkacnoimdjckaa", sum := "115740457bbb0b9ef32a0e797952988439940afb8cde5d4c21aef712407f730d", func := "switchback/switchbacklaw18.GcSweeps", spec := "gcSweeps", inPlace := ["slices.overlaps[switchback/version.Version]", "slices.overlaps[string]", "slices.overlaps[[]switchback/version.Version]"], unfollowed := true, recurses := true, apart := false, narrowed := true }
def GcSweepsUptoSaid : Prop := gcSweepsUptoRow.holds Try.pinned (OpenSpec.upto gcSweepsSpec)

/-- 'switchbacklaw18.GcTells', WHERE WHAT IT READS IS OF BULK AT MOST 1048576: true; the input reads as it did. -/
def gcTellsUptoRow : OpenClaim := { program := "ytpkacnoimdjckaa", sum := "115740457bbb0b9ef32a0e797952988439940afb8cde5d4c21aef712407f730d", func := "switchback/switchbacklaw18.GcTells", spec := "gcTells", inPlace := ["slices.overlaps[switchback/version.Version]", "slices.overlaps[string]", "slices.overlaps[[]switchback/version.Version]"], unfollowed := true, recurses := true, apart := false, narrowed := true }
def GcTellsUptoSaid : Prop := gcTellsUptoRow.holds Try.pinned (OpenSpec.upto gcTellsSpec)

/-- 'switchbacklaw18.GcKeys', WHERE WHAT IT READS IS OF BULK AT MOST 1048576: true; the input reads as it did. -/
def gcKeysUptoRow : OpenClaim := { program := "ytpkacnoimdjckaa", sum := "115740457bbb0b9ef32a0e797952988439940afb8cde5d4c21aef712407f730d", func := "switchback/switchbacklaw18.GcKeys", spec := "gcKeys", inPlace := ["slices.overlaps[switchback/version.Version]", "slices.overlaps[string]", "slices.overlaps[[]switchback/version.Version]"], unfollowed := true, recurses := true, apart := false, narrowed := true }
def GcKeysUptoSaid : Prop := gcKeysUptoRow.holds Try.pinned (OpenSpec.upto gcKeysSpec)

/-- 'switchbacklaw18.GcUndoes', WHERE WHAT IT READS IS OF BULK AT MOST 1048576: true; the input reads as it did. -/
def gcUndoesUptoRow : OpenClaim := { program := "ytpkacnoimdjckaa", sum := "115740457bbb0b9ef32a0e797952988439940afb8cde5d4c21aef712407f730d", func := "switchback/switchbacklaw18.GcUndoes", spec := "gcUndoes", inPlace := ["slices.overlaps[switchback/version.Version]", "slices.overlaps[string]", "slices.overlaps[[]switchback/version.Version]"], unfollowed := true, recurses := true, apart := false, narrowed := true }
def GcUndoesUptoSaid : Prop := gcUndoesUptoRow.holds Try.pinned (OpenSpec.upto gcUndoesSpec)

end Rows
end Go.Proofs.Ytpkacnoimdjckaa
