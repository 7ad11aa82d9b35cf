/-
  No cell of these rows narrows 'for every input' (looked for: loops, veiled, ifaces, maps, wideKeys, modest, calm, conditions, laid).
  DERIVED. THE GIVEN ROWS OF THIS SEAT. 5 by the template 'for every input the law returns true; each argument reads behind the call as it read before'; 0 by the template 'total and deterministic' (their statements: YtkecbghnapjecaaTotals.lean).
  GIVEN WITH THE SEED: the statements are not yours to turn. If you find one false, say at which input.
  Laid BY PROGRAM, IN A SANDBOX (cutbox-rows.mjs): the forced cells as the released guide's own fill.sh prints them over the translation 8d0bda2e68729bab… (all of the seat's roots in one cut). By AI agents, Wed Nov 11 2026. No macro, syntax, notation, axiom, sorry.
-/
import Derived.Test.YtkecbghnapjecaaChecked
import GoSem.Claim
import GoSem.ClaimJoined
import GoSem.ClaimMapViews
import Derived.JoinedTies
import Derived.KernelRfl
namespace Go.Proofs.Ytkecbghnapjecaa
/- THE CELL 'sum', in the pinned program and in every row, IS THE sha256 OF THE DUMP (.gsa) THAT YtkecbghnapjecaaProg.lean LOADS. Nothing in Lean hashes anything: it is a label: what it is worth is what the hold of that sum in a sandbox is worth. -/
noncomputable def Try.pinned : Pinned := { name := "ytkecbghnapjecaa", sum := "8d0bda2e68729bab81a9c65e4c67c3a5906de9ec7935b9886a8094618138af7d", checked := Try.checked }
namespace Rows
def none {H : Type} : Left H := { results := [], args := [] }

/-- 'switchbacklaw12.BtreePuts': WHATEVER THE INPUT: true; the input reads as it did. -/
def btreePutsSpec : ChangeSpec := { name := "btreePuts", fn := fun _ => fun
  | [d1, d2, d3] => { results := [.lit (.bool true)], args := [d1, d2, d3] }
  | _ => none }
def btreePutsRow : OpenClaim := { program := "ytkecbghnapjecaa", sum := "8d0bda2e68729bab81a9c65e4c67c3a5906de9ec7935b9886a8094618138af7d", func := "switchback/switchbacklaw12.BtreePuts", spec := "btreePuts", inPlace := ["slices.overlaps[string]", "slices.overlaps[*switchback/btree.node]"], unfollowed := true, recurses := true, apart := false }
def BtreePutsSaid : Prop := btreePutsRow.holds Try.pinned (OpenSpec.ofChange btreePutsSpec)

/-- ITS FALSE NEIGHBOUR: 'it returns false'. Refute it at one input. -/
def btreePutsWrong : ChangeSpec := { name := "btreePuts", fn := fun _ => fun
  | [d1, d2, d3] => { results := [.lit (.bool false)], args := [d1, d2, d3] }
  | _ => none }
def BtreePutsWrongFalsely : Prop := btreePutsRow.holds Try.pinned (OpenSpec.ofChange btreePutsWrong)

/-- 'switchbacklaw12.BtreeDeep': WHATEVER THE INPUT: true; the input reads as it did. -/
def btreeDeepSpec : ChangeSpec := { name := "btreeDeep", fn := fun _ => fun
  | [d] => { results := [.lit (.bool true)], args := [d] }
  | _ => none }
def btreeDeepRow : OpenClaim := { program := "ytkecbghnapjecaa", sum := "8d0bda2e68729bab81a9c65e4c67c3a5906de9ec7935b9886a8094618138af7d", func := "switchback/switchbacklaw12.BtreeDeep", spec := "btreeDeep", inPlace := ["slices.overlaps[string]", "slices.overlaps[*switchback/btree.node]", "internal/bytealg.abigen_runtime_cmpstring"], unfollowed := true, recurses := true, apart := false }
def BtreeDeepSaid : Prop := btreeDeepRow.holds Try.pinned (OpenSpec.ofChange btreeDeepSpec)

/-- ITS FALSE NEIGHBOUR: 'it returns false'. Refute it at one input. -/
def btreeDeepWrong : ChangeSpec := { name := "btreeDeep", fn := fun _ => fun
  | [d] => { results := [.lit (.bool false)], args := [d] }
  | _ => none }
def BtreeDeepWrongFalsely : Prop := btreeDeepRow.holds Try.pinned (OpenSpec.ofChange btreeDeepWrong)

/-- 'switchbacklaw12.BtreeAll': WHATEVER THE INPUT: true; the input reads as it did. -/
def btreeAllSpec : ChangeSpec := { name := "btreeAll", fn := fun _ => fun
  | [d1, d2] => { results := [.lit (.bool true)], args := [d1, d2] }
  | _ => none }
def btreeAllRow : OpenClaim := { program := "ytkecbghnapjecaa", sum := "8d0bda2e68729bab81a9c65e4c67c3a5906de9ec7935b9886a8094618138af7d", func := "switchback/switchbacklaw12.BtreeAll", spec := "btreeAll", inPlace := ["slices.overlaps[string]", "slices.overlaps[*switchback/btree.node]", "internal/bytealg.abigen_runtime_cmpstring"], unfollowed := true, recurses := true, apart := false }
def BtreeAllSaid : Prop := btreeAllRow.holds Try.pinned (OpenSpec.ofChange btreeAllSpec)

/-- ITS FALSE NEIGHBOUR: 'it returns false'. Refute it at one input. -/
def btreeAllWrong : ChangeSpec := { name := "btreeAll", fn := fun _ => fun
  | [d1, d2] => { results := [.lit (.bool false)], args := [d1, d2] }
  | _ => none }
def BtreeAllWrongFalsely : Prop := btreeAllRow.holds Try.pinned (OpenSpec.ofChange btreeAllWrong)

/-- 'switchbacklaw12.BtreeTells': WHATEVER THE INPUT: true; the input reads as it did. -/
def btreeTellsSpec : ChangeSpec := { name := "btreeTells", fn := fun _ => fun
  | [d1, d2, d3] => { results := [.lit (.bool true)], args := [d1, d2, d3] }
  | _ => none }
def btreeTellsRow : OpenClaim := { program := "ytkecbghnapjecaa", sum := "8d0bda2e68729bab81a9c65e4c67c3a5906de9ec7935b9886a8094618138af7d", func := "switchback/switchbacklaw12.BtreeTells", spec := "btreeTells", inPlace := ["internal/bytealg.abigen_runtime_cmpstring", "slices.overlaps[string]", "slices.overlaps[*switchback/btree.node]"], unfollowed := true, recurses := true, apart := false }
def BtreeTellsSaid : Prop := btreeTellsRow.holds Try.pinned (OpenSpec.ofChange btreeTellsSpec)

/-- ITS FALSE NEIGHBOUR: 'it returns false'. Refute it at one input. -/
def btreeTellsWrong : ChangeSpec := { name := "btreeTells", fn := fun _ => fun
  | [d1, d2, d3] => { results := [.lit (.bool false)], args := [d1, d2, d3] }
  | _ => none }
def BtreeTellsWrongFalsely : Prop := btreeTellsRow.holds Try.pinned (OpenSpec.ofChange btreeTellsWrong)

/-- 'switchbacklaw12.BtreeMap': WHATEVER THE INPUT: true; the input reads as it did. -/
def btreeMapSpec : ChangeSpec := { name := "btreeMap", fn := fun _ => fun
  | [d1, d2] => { results := [.lit (.bool true)], args := [d1, d2] }
  | _ => none }
def btreeMapRow : OpenClaim := { program := "ytkecbghnapjecaa", sum := "8d0bda2e68729bab81a9c65e4c67c3a5906de9ec7935b9886a8094618138af7d", func := "switchback/switchbacklaw12.BtreeMap", spec := "btreeMap", inPlace := ["slices.overlaps[string]", "slices.overlaps[*switchback/btree.node]", "internal/bytealg.abigen_runtime_cmpstring"], unfollowed := true, recurses := true, apart := false }
def BtreeMapSaid : Prop := btreeMapRow.holds Try.pinned (OpenSpec.ofChange btreeMapSpec)

/-- ITS FALSE NEIGHBOUR: 'it returns false'. Refute it at one input. -/
def btreeMapWrong : ChangeSpec := { name := "btreeMap", fn := fun _ => fun
  | [d1, d2] => { results := [.lit (.bool false)], args := [d1, d2] }
  | _ => none }
def BtreeMapWrongFalsely : Prop := btreeMapRow.holds Try.pinned (OpenSpec.ofChange btreeMapWrong)

/- THE SECOND FORM. 'bulk': how many values and letters a reading holds, each counted each time it is reached (what is shared counts as often as it is met; a slice's spare places count too). A statement '..UptoSaid' is the law's where the arguments, and the package variables that the reading takes, are together of bulk at most 1048576: NARROWER than '..Said'. Prove '..Said' where nothing that the law and all that it calls make is longer than what came in: it says more and counts as full. Else prove '..UptoSaid'. A law counts once. -/
mutual
def uptoBulk {H : Type} : DataW H → Nat
  | .lit (.string bytes) => bytes.length + 1
  | .lit _ => 1
  | .nil => 1
  | .ptr d => uptoBulk d + 1
  | .slice elems spare => uptoBulkAll elems + uptoBulkAll spare + 1
  | .agg parts => uptoBulkAll parts + 1
  | .iface _ d => uptoBulk d + 1
  | .map entries => uptoBulkEntries entries + 1
  | .held _ => 1
def uptoBulkAll {H : Type} : List (DataW H) → Nat
  | [] => 0
  | d :: r => uptoBulk d + uptoBulkAll r
def uptoBulkEntries {H : Type} : List (Lit × DataW H) → Nat
  | [] => 0
  | x :: r => uptoBulkEntry x + uptoBulkEntries r
def uptoBulkEntry {H : Type} : Lit × DataW H → Nat
  | (.string bytes, d) => bytes.length + uptoBulk d + 1
  | (_, d) => uptoBulk d + 1
 end
def uptoSmall : (H : Type) → List (DataW H) → Bool := fun _ ds => decide (uptoBulkAll ds ≤ 1048576)
def OpenSpec.upto (s : _root_.Go.ChangeSpec) : _root_.Go.OpenSpec := { _root_.Go.OpenSpec.ofChange s with cond := some uptoSmall }

/-- 'switchbacklaw12.BtreePuts', WHERE WHAT IT READS IS OF BULK AT MOST 1048576: true; the input reads as it did. -/
def btreePutsUptoRow : OpenClaim := { program := "ytkecbghnapjecaa", sum := "8d0bda2e68729bab81a9c65e4c67c3a5906de9ec7935b9886a8094618138af7d", func := "switchback/switchbacklaw12.BtreePuts", spec := "btreePuts", inPlace := ["slices.overlaps[string]", "slices.overlaps[*switchback/btree.node]"], unfollowed := true, recurses := true, apart := false, narrowed := true }
def BtreePutsUptoSaid : Prop := btreePutsUptoRow.holds Try.pinned (OpenSpec.upto btreePutsSpec)

/-- 'switchbacklaw12.BtreeDeep', WHERE WHAT IT READS IS OF BULK AT MOST 1048576: true; the input reads as it did. -/
def btreeDeepUptoRow : OpenClaim := { program := "ytkecbghnapjecaa", sum := "8d0bda2e68729bab81a9c65e4c67c3a5906de9ec7935b9886a8094618138af7d", func := "switchback/switchbacklaw12.BtreeDeep", spec := "btreeDeep", inPlace := ["slices.overlaps[string]", "slices.overlaps[*switchback/btree.node]", "internal/bytealg.abigen_runtime_cmpstring"], unfollowed := true, recurses := true, apart := false, narrowed := true }
def BtreeDeepUptoSaid : Prop := btreeDeepUptoRow.holds Try.pinned (OpenSpec.upto btreeDeepSpec)

/-- 'switchbacklaw12.BtreeAll', WHERE WHAT IT READS IS OF BULK AT MOST 1048576: true; the input reads as it did. -/
def btreeAllUptoRow : OpenClaim := { program := "ytkecbghnapjecaa", sum := "8d0bda2e68729bab81a9c65e4c67c3a5906de9ec7935b9886a8094618138af7d", func := "switchback/switchbacklaw12.BtreeAll", spec := "btreeAll", inPlace := ["slices.overlaps[string]", "slices.overlaps[*switchback/btree.node]", "internal/bytealg.abigen_runtime_cmpstring"], unfollowed := true, recurses := true, apart := false, narrowed := true }
def BtreeAllUptoSaid : Prop := btreeAllUptoRow.holds Try.pinned (OpenSpec.upto btreeAllSpec)

/-- 'switchbacklaw12.BtreeTells', WHERE WHAT IT READS IS OF BULK AT MOST 1048576: true; the input reads as it did. -/
def btreeTellsUptoRow : OpenClaim := { program := "ytkecbghnapjecaa", sum := "8d0bda2e68729bab81a9c65e4c67c3a5906de9ec7935b9886a8094618138af7d", func := "switchback/switchbacklaw12.BtreeTells", spec := "btreeTells", inPlace := ["internal/bytealg.abigen_runtime_cmpstring", "slices.overlaps[string]", "slices.overlaps[*switchback/btree.node]"], unfollowed := true, recurses := true, apart := false, narrowed := true }
def BtreeTellsUptoSaid : Prop := btreeTellsUptoRow.holds Try.pinned (OpenSpec.upto btreeTellsSpec)

/-- 'switchbacklaw12.BtreeMap', WHERE WHAT IT READS IS OF BULK AT MOST 1048576: true; the input reads as it did. -/
def btreeMapUptoRow : OpenClaim := { program := "ytkecbghnapjecaa", sum := "8d0bda2e68729bab81a9c65e4c67c3a5906de9ec7935b9886a8094618138af7d", func := "switchback/switchbacklaw12.BtreeMap", spec := "btreeMap", inPlace := ["slices.overlaps[string]", "slices.overlaps[*switchback/btree.node]", "internal/bytealg.abigen_runtime_cmpstring"], unfollowed := true, recurses := true, apart := false, narrowed := true }
def BtreeMapUptoSaid : Prop := btreeMapUptoRow.holds Try.pinned (OpenSpec.upto btreeMapSpec)

end Rows
end Go.Proofs.Ytkecbghnapjecaa
