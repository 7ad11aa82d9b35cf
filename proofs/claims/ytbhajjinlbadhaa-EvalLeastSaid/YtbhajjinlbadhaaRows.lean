/-
  NARROWER THAN 'FOR EVERY INPUT', by the rows' own cells (each row's printed sentence says how): EvalShort: loops.
  DERIVED. THE GIVEN ROWS OF THIS SEAT. 3 by the template 'for every input the law returns true; each argument reads behind the call as it read before'; 0 by the template 'total and deterministic' (their statements: YtbhajjinlbadhaaTotals.lean).
  GIVEN WITH THE SEED: the statements are not yours to turn. If you find one false, say at which input.
  Laid BY PROGRAM, IN A SANDBOX (cutbox-rows.mjs): the forced cells as the released guide's own fill.sh prints them over the translation e1ac3644dafe42d6… (all of the seat's roots in one cut). By AI agents, Wed Nov 11 2026. No macro, syntax, notation, axiom, sorry.
-/
import Derived.Test.YtbhajjinlbadhaaChecked
import GoSem.Claim
import GoSem.ClaimJoined
import GoSem.ClaimMapViews
import Derived.JoinedTies
import Derived.KernelRfl
namespace Go.Proofs.Ytbhajjinlbadhaa
/- THE CELL 'sum', in the pinned program and in every row, IS THE sha256 OF THE DUMP (.gsa) THAT YtbhajjinlbadhaaProg.lean LOADS. Nothing in Lean hashes anything: it is a label: what it is worth is what the hold of that sum in a sandbox is worth. -/
noncomputable def Try.pinned : Pinned := { name := "ytbhajjinlbadhaa", sum := "e1ac3644dafe42d6d32e5c844c2d2f896a95516943d129fe2a754c439e41666a", checked := Try.checked }
namespace Rows
def none {H : Type} : Left H := { results := [], args := [] }

/-- 'switchbacklaw08.EvalShort': WHATEVER THE INPUT: true; the input reads as it did. -/
def evalShortSpec : ChangeSpec := { name := "evalShort", fn := fun _ => fun
  | [d1, d2] => { results := [.lit (.bool true)], args := [d1, d2] }
  | _ => none }
def evalShortRow : OpenClaim := { program := "ytbhajjinlbadhaa", sum := "e1ac3644dafe42d6d32e5c844c2d2f896a95516943d129fe2a754c439e41666a", func := "switchback/switchbacklaw08.EvalShort", spec := "evalShort", unfollowed := true, recurses := true, loops := true, apart := false }
def EvalShortSaid : Prop := evalShortRow.holds Try.pinned (OpenSpec.ofChange evalShortSpec)

/-- ITS FALSE NEIGHBOUR: 'it returns false'. Refute it at one input. -/
def evalShortWrong : ChangeSpec := { name := "evalShort", fn := fun _ => fun
  | [d1, d2] => { results := [.lit (.bool false)], args := [d1, d2] }
  | _ => none }
def EvalShortWrongFalsely : Prop := evalShortRow.holds Try.pinned (OpenSpec.ofChange evalShortWrong)

/-- 'switchbacklaw08.EvalLeast': WHATEVER THE INPUT: true; the input reads as it did. -/
def evalLeastSpec : ChangeSpec := { name := "evalLeast", fn := fun _ => fun
  | [d] => { results := [.lit (.bool true)], args := [d] }
  | _ => none }
def evalLeastRow : OpenClaim := { program := "ytbhajjinlbadhaa", sum := "e1ac3644dafe42d6d32e5c844c2d2f896a95516943d129fe2a754c439e41666a", func := "switchback/switchbacklaw08.EvalLeast", spec := "evalLeast", unfollowed := true, recurses := true, apart := false }
def EvalLeastSaid : Prop := evalLeastRow.holds Try.pinned (OpenSpec.ofChange evalLeastSpec)

/-- ITS FALSE NEIGHBOUR: 'it returns false'. Refute it at one input. -/
def evalLeastWrong : ChangeSpec := { name := "evalLeast", fn := fun _ => fun
  | [d] => { results := [.lit (.bool false)], args := [d] }
  | _ => none }
def EvalLeastWrongFalsely : Prop := evalLeastRow.holds Try.pinned (OpenSpec.ofChange evalLeastWrong)

/-- 'switchbacklaw10.QuerySorts': WHATEVER THE INPUT: true; the input reads as it did. -/
def querySortsSpec : ChangeSpec := { name := "querySorts", fn := fun _ => fun
  | [d1, d2, d3] => { results := [.lit (.bool true)], args := [d1, d2, d3] }
  | _ => none }
def querySortsRow : OpenClaim := { program := "ytbhajjinlbadhaa", sum := "e1ac3644dafe42d6d32e5c844c2d2f896a95516943d129fe2a754c439e41666a", func := "switchback/switchbacklaw10.QuerySorts", spec := "querySorts", unfollowed := true, recurses := true, apart := false }
def QuerySortsSaid : Prop := querySortsRow.holds Try.pinned (OpenSpec.ofChange querySortsSpec)

/-- ITS FALSE NEIGHBOUR: 'it returns false'. Refute it at one input. -/
def querySortsWrong : ChangeSpec := { name := "querySorts", fn := fun _ => fun
  | [d1, d2, d3] => { results := [.lit (.bool false)], args := [d1, d2, d3] }
  | _ => none }
def QuerySortsWrongFalsely : Prop := querySortsRow.holds Try.pinned (OpenSpec.ofChange querySortsWrong)

/- THE SECOND FORM. 'bulk': how many values and letters a reading holds, each counted each time it is reached (what is shared counts as often as it is met; a slice's spare places count too). A statement '..UptoSaid' is the law's where the arguments, and the package variables that the reading takes, are together of bulk at most 1048576: NARROWER than '..Said'. Prove '..Said' where nothing that the law and all that it calls make is longer than what came in: it says more and counts as full. Else prove '..UptoSaid'. A law counts once. -/
mutual
def uptoBulk {H : Type} : DataW H → Nat
  | .lit (.string bytes) => bytes.length + 1
  | .lit _ => 1
  | .nil => 1
  | .ptr d => uptoBulk d + 1
  | .slice elems spare => uptoBulkAll elems + uptoBulkAll spare + 1
  | .agg parts => uptoBulkAll parts + 1
  | .iface _ d => uptoBulk d + 1
  | .map entries => uptoBulkEntries entries + 1
  | .held _ => 1
def uptoBulkAll {H : Type} : List (DataW H) → Nat
  | [] => 0
  | d :: r => uptoBulk d + uptoBulkAll r
def uptoBulkEntries {H : Type} : List (Lit × DataW H) → Nat
  | [] => 0
  | x :: r => uptoBulkEntry x + uptoBulkEntries r
def uptoBulkEntry {H : Type} : Lit × DataW H → Nat
  | (.string bytes, d) => bytes.length + uptoBulk d + 1
  | (_, d) => uptoBulk d + 1
 end
def uptoSmall : (H : Type) → List (DataW H) → Bool := fun _ ds => decide (uptoBulkAll ds ≤ 1048576)
def OpenSpec.upto (s : _root_.Go.ChangeSpec) : _root_.Go.OpenSpec := { _root_.Go.OpenSpec.ofChange s with cond := some uptoSmall }

/-- 'switchbacklaw08.EvalShort', WHERE WHAT IT READS IS OF BULK AT MOST 1048576: true; the input reads as it did. -/
def evalShortUptoRow : OpenClaim := { program := "ytbhajjinlbadhaa", sum := "e1ac3644dafe42d6d32e5c844c2d2f896a95516943d129fe2a754c439e41666a", func := "switchback/switchbacklaw08.EvalShort", spec := "evalShort", unfollowed := true, recurses := true, loops := true, apart := false, narrowed := true }
def EvalShortUptoSaid : Prop := evalShortUptoRow.holds Try.pinned (OpenSpec.upto evalShortSpec)

/-- 'switchbacklaw08.EvalLeast', WHERE WHAT IT READS IS OF BULK AT MOST 1048576: true; the input reads as it did. -/
def evalLeastUptoRow : OpenClaim := { program := "ytbhajjinlbadhaa", sum := "e1ac3644dafe42d6d32e5c844c2d2f896a95516943d129fe2a754c439e41666a", func := "switchback/switchbacklaw08.EvalLeast", spec := "evalLeast", unfollowed := true, recurses := true, apart := false, narrowed := true }
def EvalLeastUptoSaid : Prop := evalLeastUptoRow.holds Try.pinned (OpenSpec.upto evalLeastSpec)

/-- 'switchbacklaw10.QuerySorts', WHERE WHAT IT READS IS OF BULK AT MOST 1048576: true; the input reads as it did. -/
def querySortsUptoRow : OpenClaim := { program := "ytbhajjinlbadhaa", sum := "e1ac3644dafe42d6d32e5c844c2d2f896a95516943d129fe2a754c439e41666a", func := "switchback/switchbacklaw10.QuerySorts", spec := "querySorts", unfollowed := true, recurses := true, apart := false, narrowed := true }
def QuerySortsUptoSaid : Prop := querySortsUptoRow.holds Try.pinned (OpenSpec.upto querySortsSpec)

end Rows
end Go.Proofs.Ytbhajjinlbadhaa
