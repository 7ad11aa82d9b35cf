/-
  No cell of these rows narrows 'for every input' (looked for: loops, veiled, ifaces, maps, wideKeys, modest, calm, conditions, laid).
  DERIVED. THE GIVEN ROWS OF THIS SEAT. 6 by the template 'for every input the law returns true; each argument reads behind the call as it read before'; 0 by the template 'total and deterministic' (their statements: YtdiclnkkddnncaaTotals.lean).
  GIVEN WITH THE SEED: the statements are not yours to turn. If you find one false, say at which input.
  Laid BY PROGRAM, IN A SANDBOX (cutbox-rows.mjs): the forced cells as the released guide's own fill.sh prints them over the translation 7ddf36866d317004… (all of the seat's roots in one cut). By AI agents, Wed Nov 11 2026. No macro, syntax, notation, axiom, sorry.
-/
import Derived.Test.YtdiclnkkddnncaaChecked
import GoSem.Claim
import GoSem.ClaimJoined
import GoSem.ClaimMapViews
import Derived.JoinedTies
import Derived.KernelRfl
namespace Go.Proofs.Ytdiclnkkddnncaa
/- THE CELL 'sum', in the pinned program and in every row, IS THE sha256 OF THE DUMP (.gsa) THAT YtdiclnkkddnncaaProg.lean LOADS. Nothing in Lean hashes anything: it is a label: what it is worth is what the hold of that sum in a sandbox is worth. -/
noncomputable def Try.pinned : Pinned := { name := "ytdiclnkkddnncaa", sum := "7ddf36866d317004e9078ac8082f7fd0c08b3762d551efcd30a1603c842a80b5", checked := Try.checked }
namespace Rows
def none {H : Type} : Left H := { results := [], args := [] }

/-- 'switchbacklaw16.LockMay': WHATEVER THE INPUT: true; the input reads as it did. -/
def lockMaySpec : ChangeSpec := { name := "lockMay", fn := fun _ => fun
  | [d1, d2] => { results := [.lit (.bool true)], args := [d1, d2] }
  | _ => none }
def lockMayRow : OpenClaim := { program := "ytdiclnkkddnncaa", sum := "7ddf36866d317004e9078ac8082f7fd0c08b3762d551efcd30a1603c842a80b5", func := "switchback/switchbacklaw16.LockMay", spec := "lockMay", inPlace := ["slices.overlaps[switchback/lock.Lock]"], unfollowed := true, recurses := true, apart := false }
def LockMaySaid : Prop := lockMayRow.holds Try.pinned (OpenSpec.ofChange lockMaySpec)

/-- ITS FALSE NEIGHBOUR: 'it returns false'. Refute it at one input. -/
def lockMayWrong : ChangeSpec := { name := "lockMay", fn := fun _ => fun
  | [d1, d2] => { results := [.lit (.bool false)], args := [d1, d2] }
  | _ => none }
def LockMayWrongFalsely : Prop := lockMayRow.holds Try.pinned (OpenSpec.ofChange lockMayWrong)

/-- 'switchbacklaw16.LockJust': WHATEVER THE INPUT: true; the input reads as it did. -/
def lockJustSpec : ChangeSpec := { name := "lockJust", fn := fun _ => fun
  | [d1, d2, d3, d4] => { results := [.lit (.bool true)], args := [d1, d2, d3, d4] }
  | _ => none }
def lockJustRow : OpenClaim := { program := "ytdiclnkkddnncaa", sum := "7ddf36866d317004e9078ac8082f7fd0c08b3762d551efcd30a1603c842a80b5", func := "switchback/switchbacklaw16.LockJust", spec := "lockJust", inPlace := ["slices.overlaps[switchback/lock.Lock]"], unfollowed := true, recurses := true, apart := false }
def LockJustSaid : Prop := lockJustRow.holds Try.pinned (OpenSpec.ofChange lockJustSpec)

/-- ITS FALSE NEIGHBOUR: 'it returns false'. Refute it at one input. -/
def lockJustWrong : ChangeSpec := { name := "lockJust", fn := fun _ => fun
  | [d1, d2, d3, d4] => { results := [.lit (.bool false)], args := [d1, d2, d3, d4] }
  | _ => none }
def LockJustWrongFalsely : Prop := lockJustRow.holds Try.pinned (OpenSpec.ofChange lockJustWrong)

/-- 'switchbacklaw16.LockTurns': WHATEVER THE INPUT: true; the input reads as it did. -/
def lockTurnsSpec : ChangeSpec := { name := "lockTurns", fn := fun _ => fun
  | [d1, d2, d3, d4] => { results := [.lit (.bool true)], args := [d1, d2, d3, d4] }
  | _ => none }
def lockTurnsRow : OpenClaim := { program := "ytdiclnkkddnncaa", sum := "7ddf36866d317004e9078ac8082f7fd0c08b3762d551efcd30a1603c842a80b5", func := "switchback/switchbacklaw16.LockTurns", spec := "lockTurns", inPlace := ["slices.overlaps[switchback/lock.Lock]"], unfollowed := true, recurses := true, apart := false }
def LockTurnsSaid : Prop := lockTurnsRow.holds Try.pinned (OpenSpec.ofChange lockTurnsSpec)

/-- ITS FALSE NEIGHBOUR: 'it returns false'. Refute it at one input. -/
def lockTurnsWrong : ChangeSpec := { name := "lockTurns", fn := fun _ => fun
  | [d1, d2, d3, d4] => { results := [.lit (.bool false)], args := [d1, d2, d3, d4] }
  | _ => none }
def LockTurnsWrongFalsely : Prop := lockTurnsRow.holds Try.pinned (OpenSpec.ofChange lockTurnsWrong)

/-- 'switchbacklaw16.LockKeys': WHATEVER THE INPUT: true; the input reads as it did. -/
def lockKeysSpec : ChangeSpec := { name := "lockKeys", fn := fun _ => fun
  | [d1, d2] => { results := [.lit (.bool true)], args := [d1, d2] }
  | _ => none }
def lockKeysRow : OpenClaim := { program := "ytdiclnkkddnncaa", sum := "7ddf36866d317004e9078ac8082f7fd0c08b3762d551efcd30a1603c842a80b5", func := "switchback/switchbacklaw16.LockKeys", spec := "lockKeys", inPlace := ["slices.overlaps[switchback/lock.Lock]"], unfollowed := true, recurses := true, apart := false }
def LockKeysSaid : Prop := lockKeysRow.holds Try.pinned (OpenSpec.ofChange lockKeysSpec)

/-- ITS FALSE NEIGHBOUR: 'it returns false'. Refute it at one input. -/
def lockKeysWrong : ChangeSpec := { name := "lockKeys", fn := fun _ => fun
  | [d1, d2] => { results := [.lit (.bool false)], args := [d1, d2] }
  | _ => none }
def LockKeysWrongFalsely : Prop := lockKeysRow.holds Try.pinned (OpenSpec.ofChange lockKeysWrong)

/-- 'switchbacklaw16.LockStays': WHATEVER THE INPUT: true; the input reads as it did. -/
def lockStaysSpec : ChangeSpec := { name := "lockStays", fn := fun _ => fun
  | [d1, d2, d3, d4] => { results := [.lit (.bool true)], args := [d1, d2, d3, d4] }
  | _ => none }
def lockStaysRow : OpenClaim := { program := "ytdiclnkkddnncaa", sum := "7ddf36866d317004e9078ac8082f7fd0c08b3762d551efcd30a1603c842a80b5", func := "switchback/switchbacklaw16.LockStays", spec := "lockStays", inPlace := ["slices.overlaps[switchback/lock.Lock]"], unfollowed := true, recurses := true, apart := false }
def LockStaysSaid : Prop := lockStaysRow.holds Try.pinned (OpenSpec.ofChange lockStaysSpec)

/-- ITS FALSE NEIGHBOUR: 'it returns false'. Refute it at one input. -/
def lockStaysWrong : ChangeSpec := { name := "lockStays", fn := fun _ => fun
  | [d1, d2, d3, d4] => { results := [.lit (.bool false)], args := [d1, d2, d3, d4] }
  | _ => none }
def LockStaysWrongFalsely : Prop := lockStaysRow.holds Try.pinned (OpenSpec.ofChange lockStaysWrong)

/-- 'switchbacklaw16.LockTells': WHATEVER THE INPUT: true; the input reads as it did. -/
def lockTellsSpec : ChangeSpec := { name := "lockTells", fn := fun _ => fun
  | [d1, d2, d3, d4] => { results := [.lit (.bool true)], args := [d1, d2, d3, d4] }
  | _ => none }
def lockTellsRow : OpenClaim := { program := "ytdiclnkkddnncaa", sum := "7ddf36866d317004e9078ac8082f7fd0c08b3762d551efcd30a1603c842a80b5", func := "switchback/switchbacklaw16.LockTells", spec := "lockTells", inPlace := ["slices.overlaps[switchback/lock.Lock]"], unfollowed := true, recurses := true, apart := false }
def LockTellsSaid : Prop := lockTellsRow.holds Try.pinned (OpenSpec.ofChange lockTellsSpec)

/-- ITS FALSE NEIGHBOUR: 'it returns false'. Refute it at one input. -/
def lockTellsWrong : ChangeSpec := { name := "lockTells", fn := fun _ => fun
  | [d1, d2, d3, d4] => { results := [.lit (.bool false)], args := [d1, d2, d3, d4] }
  | _ => none }
def LockTellsWrongFalsely : Prop := lockTellsRow.holds Try.pinned (OpenSpec.ofChange lockTellsWrong)

/- THE SECOND FORM. 'bulk': how many values and letters a reading holds, each counted each time it is reached (what is shared counts as often as it is met; a slice's spare places count too). A statement '..UptoSaid' is the law's where the arguments, and the package variables that the reading takes, are together of bulk at most 1048576: NARROWER than '..Said'. Prove '..Said' where nothing that the law and all that it calls make is longer than what came in: it says more and counts as full. Else prove '..UptoSaid'. A law counts once. -/
mutual
def uptoBulk {H : Type} : DataW H → Nat
  | .lit (.string bytes) => bytes.length + 1
  | .lit _ => 1
  | .nil => 1
  | .ptr d => uptoBulk d + 1
  | .slice elems spare => uptoBulkAll elems + uptoBulkAll spare + 1
  | .agg parts => uptoBulkAll parts + 1
  | .iface _ d => uptoBulk d + 1
  | .map entries => uptoBulkEntries entries + 1
  | .held _ => 1
def uptoBulkAll {H : Type} : List (DataW H) → Nat
  | [] => 0
  | d :: r => uptoBulk d + uptoBulkAll r
def uptoBulkEntries {H : Type} : List (Lit × DataW H) → Nat
  | [] => 0
  | x :: r => uptoBulkEntry x + uptoBulkEntries r
def uptoBulkEntry {H : Type} : Lit × DataW H → Nat
  | (.string bytes, d) => bytes.length + uptoBulk d + 1
  | (_, d) => uptoBulk d + 1
 end
def uptoSmall : (H : Type) → List (DataW H) → Bool := fun _ ds => decide (uptoBulkAll ds ≤ 1048576)
def OpenSpec.upto (s : _root_.Go.ChangeSpec) : _root_.Go.OpenSpec := { _root_.Go.OpenSpec.ofChange s with cond := some uptoSmall }

/-- 'switchbacklaw16.LockMay', WHERE WHAT IT READS IS OF BULK AT MOST 1048576: true; the input reads as it did. -/
def lockMayUptoRow : OpenClaim := { program := "ytdiclnkkddnncaa", sum := "7ddf36866d317004e9078ac8082f7fd0c08b3762d551efcd30a1603c842a80b5", func := "switchback/switchbacklaw16.LockMay", spec := "lockMay", inPlace := ["slices.overlaps[switchback/lock.Lock]"], unfollowed := true, recurses := true, apart := false, narrowed := true }
def LockMayUptoSaid : Prop := lockMayUptoRow.holds Try.pinned (OpenSpec.upto lockMaySpec)

/-- 'switchbacklaw16.LockJust', WHERE WHAT IT READS IS OF BULK AT MOST 1048576: true; the input reads as it did. -/
def lockJustUptoRow : OpenClaim := { program := "ytdiclnkkddnncaa", sum := "7ddf36866d317004e9078ac8082f7fd0c08b3762d551efcd30a1603c842a80b5", func := "switchback/switchbacklaw16.LockJust", spec := "lockJust", inPlace := ["slices.overlaps[switchback/lock.Lock]"], unfollowed := true, recurses := true, apart := false, narrowed := true }
def LockJustUptoSaid : Prop := lockJustUptoRow.holds Try.pinned (OpenSpec.upto lockJustSpec)

/-- 'switchbacklaw16.LockTurns', WHERE WHAT IT READS IS OF BULK AT MOST 1048576: true; the input reads as it did. -/
def lockTurnsUptoRow : OpenClaim := { program := "ytdiclnkkddnncaa", sum := "7ddf36866d317004e9078ac8082f7fd0c08b3762d551efcd30a1603c842a80b5", func := "switchback/switchbacklaw16.LockTurns", spec := "lockTurns", inPlace := ["slices.overlaps[switchback/lock.Lock]"], unfollowed := true, recurses := true, apart := false, narrowed := true }
def LockTurnsUptoSaid : Prop := lockTurnsUptoRow.holds Try.pinned (OpenSpec.upto lockTurnsSpec)

/-- 'switchbacklaw16.LockKeys', WHERE WHAT IT READS IS OF BULK AT MOST 1048576: true; the input reads as it did. -/
def lockKeysUptoRow : OpenClaim := { program := "ytdiclnkkddnncaa", sum := "7ddf36866d317004e9078ac8082f7fd0c08b3762d551efcd30a1603c842a80b5", func := "switchback/switchbacklaw16.LockKeys", spec := "lockKeys", inPlace := ["slices.overlaps[switchback/lock.Lock]"], unfollowed := true, recurses := true, apart := false, narrowed := true }
def LockKeysUptoSaid : Prop := lockKeysUptoRow.holds Try.pinned (OpenSpec.upto lockKeysSpec)

/-- 'switchbacklaw16.LockStays', WHERE WHAT IT READS IS OF BULK AT MOST 1048576: true; the input reads as it did. -/
def lockStaysUptoRow : OpenClaim := { program := "ytdiclnkkddnncaa", sum := "7ddf36866d317004e9078ac8082f7fd0c08b3762d551efcd30a1603c842a80b5", func := "switchback/switchbacklaw16.LockStays", spec := "lockStays", inPlace := ["slices.overlaps[switchback/lock.Lock]"], unfollowed := true, recurses := true, apart := false, narrowed := true }
def LockStaysUptoSaid : Prop := lockStaysUptoRow.holds Try.pinned (OpenSpec.upto lockStaysSpec)

/-- 'switchbacklaw16.LockTells', WHERE WHAT IT READS IS OF BULK AT MOST 1048576: true; the input reads as it did. -/
def lockTellsUptoRow : OpenClaim := { program := "ytdiclnkkddnncaa", sum := "7ddf36866d317004e9078ac8082f7fd0c08b3762d551efcd30a1603c842a80b5", func := "switchback/switchbacklaw16.LockTells", spec := "lockTells", inPlace := ["slices.overlaps[switchback/lock.Lock]"], unfollowed := true, recurses := true, apart := false, narrowed := true }
def LockTellsUptoSaid : Prop := lockTellsUptoRow.holds Try.pinned (OpenSpec.upto lockTellsSpec)

end Rows
end Go.Proofs.Ytdiclnkkddnncaa
