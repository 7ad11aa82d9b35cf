/-
  No cell of these rows narrows 'for every input' (looked for: loops, veiled, ifaces, maps, wideKeys, modest, calm, conditions, laid).
  DERIVED. THE GIVEN ROWS OF THIS SEAT. 6 by the template 'for every input the law returns true; each argument reads behind the call as it read before'; 0 by the template 'total and deterministic' (their statements: YtinkmcbcfdlnjaaTotals.lean).
  GIVEN WITH THE SEED: the statements are not yours to turn. If you find one false, say at which input.
  Laid BY PROGRAM, IN A SANDBOX (cutbox-rows.mjs): the forced cells as the released guide's own fill.sh prints them over the translation 0e8afc00637b30a5… (all of the seat's roots in one cut). By AI agents, Wed Nov 11 2026. No macro, syntax, notation, axiom, sorry.
-/
import Derived.Test.YtinkmcbcfdlnjaaChecked
import GoSem.Claim
import GoSem.ClaimJoined
import GoSem.ClaimMapViews
import Derived.JoinedTies
import Derived.KernelRfl
namespace Go.Proofs.Ytinkmcbcfdlnjaa
/- THE CELL 'sum', in the pinned program and in every row, IS THE sha256 OF THE DUMP (.gsa) THAT YtinkmcbcfdlnjaaProg.lean LOADS. Nothing in Lean hashes anything: it is a label: what it is worth is what the hold of that sum in a sandbox is worth. -/
noncomputable def Try.pinned : Pinned := { name := "ytinkmcbcfdlnjaa", sum := "0e8afc00637b30a5b9fd4352093a604f6d9f3a0213d7116111dae220e1bc5b46", checked := Try.checked }
namespace Rows
def none {H : Type} : Left H := { results := [], args := [] }

/-- 'switchbacklaw02.KeycodeJoins': WHATEVER THE INPUT: true; the input reads as it did. -/
def keycodeJoinsSpec : ChangeSpec := { name := "keycodeJoins", fn := fun _ => fun
  | [d1, d2] => { results := [.lit (.bool true)], args := [d1, d2] }
  | _ => none }
def keycodeJoinsRow : OpenClaim := { program := "ytinkmcbcfdlnjaa", sum := "0e8afc00637b30a5b9fd4352093a604f6d9f3a0213d7116111dae220e1bc5b46", func := "switchback/switchbacklaw02.KeycodeJoins", spec := "keycodeJoins", inPlace := ["internal/abi.NoEscape"], apart := false }
def KeycodeJoinsSaid : Prop := keycodeJoinsRow.holds Try.pinned (OpenSpec.ofChange keycodeJoinsSpec)

/-- ITS FALSE NEIGHBOUR: 'it returns false'. Refute it at one input. -/
def keycodeJoinsWrong : ChangeSpec := { name := "keycodeJoins", fn := fun _ => fun
  | [d1, d2] => { results := [.lit (.bool false)], args := [d1, d2] }
  | _ => none }
def KeycodeJoinsWrongFalsely : Prop := keycodeJoinsRow.holds Try.pinned (OpenSpec.ofChange keycodeJoinsWrong)

/-- 'switchbacklaw02.KeycodeNumbers': WHATEVER THE INPUT: true; the input reads as it did. -/
def keycodeNumbersSpec : ChangeSpec := { name := "keycodeNumbers", fn := fun _ => fun
  | [d] => { results := [.lit (.bool true)], args := [d] }
  | _ => none }
def keycodeNumbersRow : OpenClaim := { program := "ytinkmcbcfdlnjaa", sum := "0e8afc00637b30a5b9fd4352093a604f6d9f3a0213d7116111dae220e1bc5b46", func := "switchback/switchbacklaw02.KeycodeNumbers", spec := "keycodeNumbers", inPlace := ["internal/abi.NoEscape"], apart := false }
def KeycodeNumbersSaid : Prop := keycodeNumbersRow.holds Try.pinned (OpenSpec.ofChange keycodeNumbersSpec)

/-- ITS FALSE NEIGHBOUR: 'it returns false'. Refute it at one input. -/
def keycodeNumbersWrong : ChangeSpec := { name := "keycodeNumbers", fn := fun _ => fun
  | [d] => { results := [.lit (.bool false)], args := [d] }
  | _ => none }
def KeycodeNumbersWrongFalsely : Prop := keycodeNumbersRow.holds Try.pinned (OpenSpec.ofChange keycodeNumbersWrong)

/-- 'switchbacklaw02.KeycodePrefix': WHATEVER THE INPUT: true; the input reads as it did. -/
def keycodePrefixSpec : ChangeSpec := { name := "keycodePrefix", fn := fun _ => fun
  | [d1, d2] => { results := [.lit (.bool true)], args := [d1, d2] }
  | _ => none }
def keycodePrefixRow : OpenClaim := { program := "ytinkmcbcfdlnjaa", sum := "0e8afc00637b30a5b9fd4352093a604f6d9f3a0213d7116111dae220e1bc5b46", func := "switchback/switchbacklaw02.KeycodePrefix", spec := "keycodePrefix", inPlace := ["internal/abi.NoEscape"], apart := false }
def KeycodePrefixSaid : Prop := keycodePrefixRow.holds Try.pinned (OpenSpec.ofChange keycodePrefixSpec)

/-- ITS FALSE NEIGHBOUR: 'it returns false'. Refute it at one input. -/
def keycodePrefixWrong : ChangeSpec := { name := "keycodePrefix", fn := fun _ => fun
  | [d1, d2] => { results := [.lit (.bool false)], args := [d1, d2] }
  | _ => none }
def KeycodePrefixWrongFalsely : Prop := keycodePrefixRow.holds Try.pinned (OpenSpec.ofChange keycodePrefixWrong)

/-- 'switchbacklaw02.KeycodeAfter': WHATEVER THE INPUT: true; the input reads as it did. -/
def keycodeAfterSpec : ChangeSpec := { name := "keycodeAfter", fn := fun _ => fun
  | [d1, d2] => { results := [.lit (.bool true)], args := [d1, d2] }
  | _ => none }
def keycodeAfterRow : OpenClaim := { program := "ytinkmcbcfdlnjaa", sum := "0e8afc00637b30a5b9fd4352093a604f6d9f3a0213d7116111dae220e1bc5b46", func := "switchback/switchbacklaw02.KeycodeAfter", spec := "keycodeAfter", inPlace := ["internal/abi.NoEscape"], apart := false }
def KeycodeAfterSaid : Prop := keycodeAfterRow.holds Try.pinned (OpenSpec.ofChange keycodeAfterSpec)

/-- ITS FALSE NEIGHBOUR: 'it returns false'. Refute it at one input. -/
def keycodeAfterWrong : ChangeSpec := { name := "keycodeAfter", fn := fun _ => fun
  | [d1, d2] => { results := [.lit (.bool false)], args := [d1, d2] }
  | _ => none }
def KeycodeAfterWrongFalsely : Prop := keycodeAfterRow.holds Try.pinned (OpenSpec.ofChange keycodeAfterWrong)

/-- 'switchbacklaw02.KeycodeOrder': WHATEVER THE INPUT: true; the input reads as it did. -/
def keycodeOrderSpec : ChangeSpec := { name := "keycodeOrder", fn := fun _ => fun
  | [d1, d2] => { results := [.lit (.bool true)], args := [d1, d2] }
  | _ => none }
def keycodeOrderRow : OpenClaim := { program := "ytinkmcbcfdlnjaa", sum := "0e8afc00637b30a5b9fd4352093a604f6d9f3a0213d7116111dae220e1bc5b46", func := "switchback/switchbacklaw02.KeycodeOrder", spec := "keycodeOrder", inPlace := ["internal/abi.NoEscape"], unfollowed := true, recurses := true, apart := false }
def KeycodeOrderSaid : Prop := keycodeOrderRow.holds Try.pinned (OpenSpec.ofChange keycodeOrderSpec)

/-- ITS FALSE NEIGHBOUR: 'it returns false'. Refute it at one input. -/
def keycodeOrderWrong : ChangeSpec := { name := "keycodeOrder", fn := fun _ => fun
  | [d1, d2] => { results := [.lit (.bool false)], args := [d1, d2] }
  | _ => none }
def KeycodeOrderWrongFalsely : Prop := keycodeOrderRow.holds Try.pinned (OpenSpec.ofChange keycodeOrderWrong)

/-- 'switchbacklaw02.KeycodeBack': WHATEVER THE INPUT: true; the input reads as it did. -/
def keycodeBackSpec : ChangeSpec := { name := "keycodeBack", fn := fun _ => fun
  | [d1, d2] => { results := [.lit (.bool true)], args := [d1, d2] }
  | _ => none }
def keycodeBackRow : OpenClaim := { program := "ytinkmcbcfdlnjaa", sum := "0e8afc00637b30a5b9fd4352093a604f6d9f3a0213d7116111dae220e1bc5b46", func := "switchback/switchbacklaw02.KeycodeBack", spec := "keycodeBack", inPlace := ["internal/abi.NoEscape"], unfollowed := true, recurses := true, apart := false }
def KeycodeBackSaid : Prop := keycodeBackRow.holds Try.pinned (OpenSpec.ofChange keycodeBackSpec)

/-- ITS FALSE NEIGHBOUR: 'it returns false'. Refute it at one input. -/
def keycodeBackWrong : ChangeSpec := { name := "keycodeBack", fn := fun _ => fun
  | [d1, d2] => { results := [.lit (.bool false)], args := [d1, d2] }
  | _ => none }
def KeycodeBackWrongFalsely : Prop := keycodeBackRow.holds Try.pinned (OpenSpec.ofChange keycodeBackWrong)

/- THE SECOND FORM. 'bulk': how many values and letters a reading holds, each counted each time it is reached (what is shared counts as often as it is met; a slice's spare places count too). A statement '..UptoSaid' is the law's where the arguments, and the package variables that the reading takes, are together of bulk at most 1048576: NARROWER than '..Said'. Prove '..Said' where nothing that the law and all that it calls make is longer than what came in: it says more and counts as full. Else prove '..UptoSaid'. A law counts once. -/
mutual
def uptoBulk {H : Type} : DataW H → Nat
  | .lit (.string bytes) => bytes.length + 1
  | .lit _ => 1
  | .nil => 1
  | .ptr d => uptoBulk d + 1
  | .slice elems spare => uptoBulkAll elems + uptoBulkAll spare + 1
  | .agg parts => uptoBulkAll parts + 1
  | .iface _ d => uptoBulk d + 1
  | .map entries => uptoBulkEntries entries + 1
  | .held _ => 1
def uptoBulkAll {H : Type} : List (DataW H) → Nat
  | [] => 0
  | d :: r => uptoBulk d + uptoBulkAll r
def uptoBulkEntries {H : Type} : List (Lit × DataW H) → Nat
  | [] => 0
  | x :: r => uptoBulkEntry x + uptoBulkEntries r
def uptoBulkEntry {H : Type} : Lit × DataW H → Nat
  | (.string bytes, d) => bytes.length + uptoBulk d + 1
  | (_, d) => uptoBulk d + 1
 end
def uptoSmall : (H : Type) → List (DataW H) → Bool := fun _ ds => decide (uptoBulkAll ds ≤ 1048576)
def OpenSpec.upto (s : _root_.Go.ChangeSpec) : _root_.Go.OpenSpec := { _root_.Go.OpenSpec.ofChange s with cond := some uptoSmall }

/-- 'switchbacklaw02.KeycodeJoins', WHERE WHAT IT READS IS OF BULK AT MOST 1048576: true; the input reads as it did. -/
def keycodeJoinsUptoRow : OpenClaim := { program := "ytinkmcbcfdlnjaa", sum := "0e8afc00637b30a5b9fd4352093a604f6d9f3a0213d7116111dae220e1bc5b46", func := "switchback/switchbacklaw02.KeycodeJoins", spec := "keycodeJoins", inPlace := ["internal/abi.NoEscape"], apart := false, narrowed := true }
def KeycodeJoinsUptoSaid : Prop := keycodeJoinsUptoRow.holds Try.pinned (OpenSpec.upto keycodeJoinsSpec)

/-- 'switchbacklaw02.KeycodeNumbers', WHERE WHAT IT READS IS OF BULK AT MOST 1048576: true; the input reads as it did. -/
def keycodeNumbersUptoRow : OpenClaim := { program := "ytinkmcbcfdlnjaa", sum := "0e8afc00637b30a5b9fd4352093a604f6d9f3a0213d7116111dae220e1bc5b46", func := "switchback/switchbacklaw02.KeycodeNumbers", spec := "keycodeNumbers", inPlace := ["internal/abi.NoEscape"], apart := false, narrowed := true }
def KeycodeNumbersUptoSaid : Prop := keycodeNumbersUptoRow.holds Try.pinned (OpenSpec.upto keycodeNumbersSpec)

/-- 'switchbacklaw02.KeycodePrefix', WHERE WHAT IT READS IS OF BULK AT MOST 1048576: true; the input reads as it did. -/
def keycodePrefixUptoRow : OpenClaim := { program := "ytinkmcbcfdlnjaa", sum := "0e8afc00637b30a5b9fd4352093a604f6d9f3a0213d7116111dae220e1bc5b46", func := "switchback/switchbacklaw02.KeycodePrefix", spec := "keycodePrefix", inPlace := ["internal/abi.NoEscape"], apart := false, narrowed := true }
def KeycodePrefixUptoSaid : Prop := keycodePrefixUptoRow.holds Try.pinned (OpenSpec.upto keycodePrefixSpec)

/-- 'switchbacklaw02.KeycodeAfter', WHERE WHAT IT READS IS OF BULK AT MOST 1048576: true; the input reads as it did. -/
def keycodeAfterUptoRow : OpenClaim := { program := "ytinkmcbcfdlnjaa", sum := "0e8afc00637b30a5b9fd4352093a604f6d9f3a0213d7116111dae220e1bc5b46", func := "switchback/switchbacklaw02.KeycodeAfter", spec := "keycodeAfter", inPlace := ["internal/abi.NoEscape"], apart := false, narrowed := true }
def KeycodeAfterUptoSaid : Prop := keycodeAfterUptoRow.holds Try.pinned (OpenSpec.upto keycodeAfterSpec)

/-- 'switchbacklaw02.KeycodeOrder', WHERE WHAT IT READS IS OF BULK AT MOST 1048576: true; the input reads as it did. -/
def keycodeOrderUptoRow : OpenClaim := { program := "ytinkmcbcfdlnjaa", sum := "0e8afc00637b30a5b9fd4352093a604f6d9f3a0213d7116111dae220e1bc5b46", func := "switchback/switchbacklaw02.KeycodeOrder", spec := "keycodeOrder", inPlace := ["internal/abi.NoEscape"], unfollowed := true, recurses := true, apart := false, narrowed := true }
def KeycodeOrderUptoSaid : Prop := keycodeOrderUptoRow.holds Try.pinned (OpenSpec.upto keycodeOrderSpec)

/-- 'switchbacklaw02.KeycodeBack', WHERE WHAT IT READS IS OF BULK AT MOST 1048576: true; the input reads as it did. -/
def keycodeBackUptoRow : OpenClaim := { program := "ytinkmcbcfdlnjaa", sum := "0e8afc00637b30a5b9fd4352093a604f6d9f3a0213d7116111dae220e1bc5b46", func := "switchback/switchbacklaw02.KeycodeBack", spec := "keycodeBack", inPlace := ["internal/abi.NoEscape"], unfollowed := true, recurses := true, apart := false, narrowed := true }
def KeycodeBackUptoSaid : Prop := keycodeBackUptoRow.holds Try.pinned (OpenSpec.upto keycodeBackSpec)

end Rows
end Go.Proofs.Ytinkmcbcfdlnjaa
