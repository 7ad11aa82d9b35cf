/-
  No cell of these rows narrows 'for every input' (looked for: loops, veiled, ifaces, maps, wideKeys, modest, calm, conditions, laid).
  DERIVED. THE GIVEN ROWS OF THIS SEAT. 7 by the template 'for every input the law returns true; each argument reads behind the call as it read before'; 0 by the template 'total and deterministic' (their statements: YtekldpghidmeaaaTotals.lean).
  GIVEN WITH THE SEED: the statements are not yours to turn. If you find one false, say at which input.
  Laid BY PROGRAM, IN A SANDBOX (cutbox-rows.mjs): the forced cells as the released guide's own fill.sh prints them over the translation 06fb6dcda204b3fb… (all of the seat's roots in one cut). By AI agents, Wed Nov 11 2026. No macro, syntax, notation, axiom, sorry.
-/
import Derived.Test.YtekldpghidmeaaaChecked
import GoSem.Claim
import GoSem.ClaimJoined
import GoSem.ClaimMapViews
import Derived.JoinedTies
import Derived.KernelRfl
namespace Go.Proofs.Ytekldpghidmeaaa
/- THE CELL 'sum', in the pinned program and in every row, IS THE sha256 OF THE DUMP (.gsa) THAT YtekldpghidmeaaaProg.lean LOADS. Nothing in Lean hashes anything: it is a label: what it is worth is what the hold of that sum in a sandbox is worth. -/
noncomputable def Try.pinned : Pinned := { name := "ytekldpghidmeaaa", sum := "06fb6dcda204b3fb83056d82205047bec78d2592f2926432557ff5375602072b", checked := Try.checked }
namespace Rows
def none {H : Type} : Left H := { results := [], args := [] }

/-- 'switchbacklaw01.ValueTells': WHATEVER THE INPUT: true; the input reads as it did. -/
def valueTellsSpec : ChangeSpec := { name := "valueTells", fn := fun _ => fun
  | [d1, d2] => { results := [.lit (.bool true)], args := [d1, d2] }
  | _ => none }
def valueTellsRow : OpenClaim := { program := "ytekldpghidmeaaa", sum := "06fb6dcda204b3fb83056d82205047bec78d2592f2926432557ff5375602072b", func := "switchback/switchbacklaw01.ValueTells", spec := "valueTells", unfollowed := true, recurses := true, apart := false }
def ValueTellsSaid : Prop := valueTellsRow.holds Try.pinned (OpenSpec.ofChange valueTellsSpec)

/-- ITS FALSE NEIGHBOUR: 'it returns false'. Refute it at one input. -/
def valueTellsWrong : ChangeSpec := { name := "valueTells", fn := fun _ => fun
  | [d1, d2] => { results := [.lit (.bool false)], args := [d1, d2] }
  | _ => none }
def ValueTellsWrongFalsely : Prop := valueTellsRow.holds Try.pinned (OpenSpec.ofChange valueTellsWrong)

/-- 'switchbacklaw01.ValueOrders': WHATEVER THE INPUT: true; the input reads as it did. -/
def valueOrdersSpec : ChangeSpec := { name := "valueOrders", fn := fun _ => fun
  | [d1, d2, d3] => { results := [.lit (.bool true)], args := [d1, d2, d3] }
  | _ => none }
def valueOrdersRow : OpenClaim := { program := "ytekldpghidmeaaa", sum := "06fb6dcda204b3fb83056d82205047bec78d2592f2926432557ff5375602072b", func := "switchback/switchbacklaw01.ValueOrders", spec := "valueOrders", unfollowed := true, recurses := true, apart := false }
def ValueOrdersSaid : Prop := valueOrdersRow.holds Try.pinned (OpenSpec.ofChange valueOrdersSpec)

/-- ITS FALSE NEIGHBOUR: 'it returns false'. Refute it at one input. -/
def valueOrdersWrong : ChangeSpec := { name := "valueOrders", fn := fun _ => fun
  | [d1, d2, d3] => { results := [.lit (.bool false)], args := [d1, d2, d3] }
  | _ => none }
def ValueOrdersWrongFalsely : Prop := valueOrdersRow.holds Try.pinned (OpenSpec.ofChange valueOrdersWrong)

/-- 'switchbacklaw01.ValueExact': WHATEVER THE INPUT: true; the input reads as it did. -/
def valueExactSpec : ChangeSpec := { name := "valueExact", fn := fun _ => fun
  | [d1, d2] => { results := [.lit (.bool true)], args := [d1, d2] }
  | _ => none }
def valueExactRow : OpenClaim := { program := "ytekldpghidmeaaa", sum := "06fb6dcda204b3fb83056d82205047bec78d2592f2926432557ff5375602072b", func := "switchback/switchbacklaw01.ValueExact", spec := "valueExact", unfollowed := true, recurses := true, apart := false }
def ValueExactSaid : Prop := valueExactRow.holds Try.pinned (OpenSpec.ofChange valueExactSpec)

/-- ITS FALSE NEIGHBOUR: 'it returns false'. Refute it at one input. -/
def valueExactWrong : ChangeSpec := { name := "valueExact", fn := fun _ => fun
  | [d1, d2] => { results := [.lit (.bool false)], args := [d1, d2] }
  | _ => none }
def ValueExactWrongFalsely : Prop := valueExactRow.holds Try.pinned (OpenSpec.ofChange valueExactWrong)

/-- 'switchbacklaw01.ValueLess': WHATEVER THE INPUT: true; the input reads as it did. -/
def valueLessSpec : ChangeSpec := { name := "valueLess", fn := fun _ => fun
  | [d1, d2] => { results := [.lit (.bool true)], args := [d1, d2] }
  | _ => none }
def valueLessRow : OpenClaim := { program := "ytekldpghidmeaaa", sum := "06fb6dcda204b3fb83056d82205047bec78d2592f2926432557ff5375602072b", func := "switchback/switchbacklaw01.ValueLess", spec := "valueLess", unfollowed := true, recurses := true, apart := false }
def ValueLessSaid : Prop := valueLessRow.holds Try.pinned (OpenSpec.ofChange valueLessSpec)

/-- ITS FALSE NEIGHBOUR: 'it returns false'. Refute it at one input. -/
def valueLessWrong : ChangeSpec := { name := "valueLess", fn := fun _ => fun
  | [d1, d2] => { results := [.lit (.bool false)], args := [d1, d2] }
  | _ => none }
def ValueLessWrongFalsely : Prop := valueLessRow.holds Try.pinned (OpenSpec.ofChange valueLessWrong)

/-- 'switchbacklaw01.ValueNulls': WHATEVER THE INPUT: true; the input reads as it did. -/
def valueNullsSpec : ChangeSpec := { name := "valueNulls", fn := fun _ => fun
  | [d1, d2] => { results := [.lit (.bool true)], args := [d1, d2] }
  | _ => none }
def valueNullsRow : OpenClaim := { program := "ytekldpghidmeaaa", sum := "06fb6dcda204b3fb83056d82205047bec78d2592f2926432557ff5375602072b", func := "switchback/switchbacklaw01.ValueNulls", spec := "valueNulls", unfollowed := true, recurses := true, apart := false }
def ValueNullsSaid : Prop := valueNullsRow.holds Try.pinned (OpenSpec.ofChange valueNullsSpec)

/-- ITS FALSE NEIGHBOUR: 'it returns false'. Refute it at one input. -/
def valueNullsWrong : ChangeSpec := { name := "valueNulls", fn := fun _ => fun
  | [d1, d2] => { results := [.lit (.bool false)], args := [d1, d2] }
  | _ => none }
def ValueNullsWrongFalsely : Prop := valueNullsRow.holds Try.pinned (OpenSpec.ofChange valueNullsWrong)

/-- 'switchbacklaw01.ValueReckons': WHATEVER THE INPUT: true; the input reads as it did. -/
def valueReckonsSpec : ChangeSpec := { name := "valueReckons", fn := fun _ => fun
  | [d1, d2, d3] => { results := [.lit (.bool true)], args := [d1, d2, d3] }
  | _ => none }
def valueReckonsRow : OpenClaim := { program := "ytekldpghidmeaaa", sum := "06fb6dcda204b3fb83056d82205047bec78d2592f2926432557ff5375602072b", func := "switchback/switchbacklaw01.ValueReckons", spec := "valueReckons", unfollowed := true, recurses := true, apart := false }
def ValueReckonsSaid : Prop := valueReckonsRow.holds Try.pinned (OpenSpec.ofChange valueReckonsSpec)

/-- ITS FALSE NEIGHBOUR: 'it returns false'. Refute it at one input. -/
def valueReckonsWrong : ChangeSpec := { name := "valueReckons", fn := fun _ => fun
  | [d1, d2, d3] => { results := [.lit (.bool false)], args := [d1, d2, d3] }
  | _ => none }
def ValueReckonsWrongFalsely : Prop := valueReckonsRow.holds Try.pinned (OpenSpec.ofChange valueReckonsWrong)

/-- 'switchbacklaw01.ValueTurns': WHATEVER THE INPUT: true; the input reads as it did. -/
def valueTurnsSpec : ChangeSpec := { name := "valueTurns", fn := fun _ => fun
  | [d1, d2] => { results := [.lit (.bool true)], args := [d1, d2] }
  | _ => none }
def valueTurnsRow : OpenClaim := { program := "ytekldpghidmeaaa", sum := "06fb6dcda204b3fb83056d82205047bec78d2592f2926432557ff5375602072b", func := "switchback/switchbacklaw01.ValueTurns", spec := "valueTurns", unfollowed := true, recurses := true, apart := false }
def ValueTurnsSaid : Prop := valueTurnsRow.holds Try.pinned (OpenSpec.ofChange valueTurnsSpec)

/-- ITS FALSE NEIGHBOUR: 'it returns false'. Refute it at one input. -/
def valueTurnsWrong : ChangeSpec := { name := "valueTurns", fn := fun _ => fun
  | [d1, d2] => { results := [.lit (.bool false)], args := [d1, d2] }
  | _ => none }
def ValueTurnsWrongFalsely : Prop := valueTurnsRow.holds Try.pinned (OpenSpec.ofChange valueTurnsWrong)

/- THE SECOND FORM. 'bulk': how many values and letters a reading holds, each counted each time it is reached (what is shared counts as often as it is met; a slice's spare places count too). A statement '..UptoSaid' is the law's where the arguments, and the package variables that the reading takes, are together of bulk at most 1048576: NARROWER than '..Said'. Prove '..Said' where nothing that the law and all that it calls make is longer than what came in: it says more and counts as full. Else prove '..UptoSaid'. A law counts once. -/
mutual
def uptoBulk {H : Type} : DataW H → Nat
  | .lit (.string bytes) => bytes.length + 1
  | .lit _ => 1
  | .nil => 1
  | .ptr d => uptoBulk d + 1
  | .slice elems spare => uptoBulkAll elems + uptoBulkAll spare + 1
  | .agg parts => uptoBulkAll parts + 1
  | .iface _ d => uptoBulk d + 1
  | .map entries => uptoBulkEntries entries + 1
  | .held _ => 1
def uptoBulkAll {H : Type} : List (DataW H) → Nat
  | [] => 0
  | d :: r => uptoBulk d + uptoBulkAll r
def uptoBulkEntries {H : Type} : List (Lit × DataW H) → Nat
  | [] => 0
  | x :: r => uptoBulkEntry x + uptoBulkEntries r
def uptoBulkEntry {H : Type} : Lit × DataW H → Nat
  | (.string bytes, d) => bytes.length + uptoBulk d + 1
  | (_, d) => uptoBulk d + 1
 end
def uptoSmall : (H : Type) → List (DataW H) → Bool := fun _ ds => decide (uptoBulkAll ds ≤ 1048576)
def OpenSpec.upto (s : _root_.Go.ChangeSpec) : _root_.Go.OpenSpec := { _root_.Go.OpenSpec.ofChange s with cond := some uptoSmall }

/-- 'switchbacklaw01.ValueTells', WHERE WHAT IT READS IS OF BULK AT MOST 1048576: true; the input reads as it did. -/
def valueTellsUptoRow : OpenClaim := { program := "ytekldpghidmeaaa", sum := "06fb6dcda204b3fb83056d82205047bec78d2592f2926432557ff5375602072b", func := "switchback/switchbacklaw01.ValueTells", spec := "valueTells", unfollowed := true, recurses := true, apart := false, narrowed := true }
def ValueTellsUptoSaid : Prop := valueTellsUptoRow.holds Try.pinned (OpenSpec.upto valueTellsSpec)

/-- 'switchbacklaw01.ValueOrders', WHERE WHAT IT READS IS OF BULK AT MOST 1048576: true; the input reads as it did. -/
def valueOrdersUptoRow : OpenClaim := { program := "ytekldpghidmeaaa", sum := "06fb6dcda204b3fb83056d82205047bec78d2592f2926432557ff5375602072b", func := "switchback/switchbacklaw01.ValueOrders", spec := "valueOrders", unfollowed := true, recurses := true, apart := false, narrowed := true }
def ValueOrdersUptoSaid : Prop := valueOrdersUptoRow.holds Try.pinned (OpenSpec.upto valueOrdersSpec)

/-- 'switchbacklaw01.ValueExact', WHERE WHAT IT READS IS OF BULK AT MOST 1048576: true; the input reads as it did. -/
def valueExactUptoRow : OpenClaim := { program := "ytekldpghidmeaaa", sum := "06fb6dcda204b3fb83056d82205047bec78d2592f2926432557ff5375602072b", func := "switchback/switchbacklaw01.ValueExact", spec := "valueExact", unfollowed := true, recurses := true, apart := false, narrowed := true }
def ValueExactUptoSaid : Prop := valueExactUptoRow.holds Try.pinned (OpenSpec.upto valueExactSpec)

/-- 'switchbacklaw01.ValueLess', WHERE WHAT IT READS IS OF BULK AT MOST 1048576: true; the input reads as it did. -/
def valueLessUptoRow : OpenClaim := { program := "ytekldpghidmeaaa", sum := "06fb6dcda204b3fb83056d82205047bec78d2592f2926432557ff5375602072b", func := "switchback/switchbacklaw01.ValueLess", spec := "valueLess", unfollowed := true, recurses := true, apart := false, narrowed := true }
def ValueLessUptoSaid : Prop := valueLessUptoRow.holds Try.pinned (OpenSpec.upto valueLessSpec)

/-- 'switchbacklaw01.ValueNulls', WHERE WHAT IT READS IS OF BULK AT MOST 1048576: true; the input reads as it did. -/
def valueNullsUptoRow : OpenClaim := { program := "ytekldpghidmeaaa", sum := "06fb6dcda204b3fb83056d82205047bec78d2592f2926432557ff5375602072b", func := "switchback/switchbacklaw01.ValueNulls", spec := "valueNulls", unfollowed := true, recurses := true, apart := false, narrowed := true }
def ValueNullsUptoSaid : Prop := valueNullsUptoRow.holds Try.pinned (OpenSpec.upto valueNullsSpec)

/-- 'switchbacklaw01.ValueReckons', WHERE WHAT IT READS IS OF BULK AT MOST 1048576: true; the input reads as it did. -/
def valueReckonsUptoRow : OpenClaim := { program := "ytekldpghidmeaaa", sum := "06fb6dcda204b3fb83056d82205047bec78d2592f2926432557ff5375602072b", func := "switchback/switchbacklaw01.ValueReckons", spec := "valueReckons", unfollowed := true, recurses := true, apart := false, narrowed := true }
def ValueReckonsUptoSaid : Prop := valueReckonsUptoRow.holds Try.pinned (OpenSpec.upto valueReckonsSpec)

/-- 'switchbacklaw01.ValueTurns', WHERE WHAT IT READS IS OF BULK AT MOST 1048576: true; the input reads as it did. -/
def valueTurnsUptoRow : OpenClaim := { program := "ytekldpghidmeaaa", sum := "06fb6dcda204b3fb83056d82205047bec78d2592f2926432557ff5375602072b", func := "switchback/switchbacklaw01.ValueTurns", spec := "valueTurns", unfollowed := true, recurses := true, apart := false, narrowed := true }
def ValueTurnsUptoSaid : Prop := valueTurnsUptoRow.holds Try.pinned (OpenSpec.upto valueTurnsSpec)

end Rows
end Go.Proofs.Ytekldpghidmeaaa
