/-
  No cell of these rows narrows 'for every input' (looked for: loops, veiled, ifaces, maps, wideKeys, modest, calm, conditions, laid).
  DERIVED. THE GIVEN ROWS OF THIS SEAT. 4 by the template 'for every input the law returns true; each argument reads behind the call as it read before'; 0 by the template 'total and deterministic' (their statements: YtdajginkipaghaaTotals.lean).
  GIVEN WITH THE SEED: the statements are not yours to turn. If you find one false, say at which input.
  Laid BY PROGRAM, IN A SANDBOX (cutbox-rows.mjs): the forced cells as the released guide's own fill.sh prints them over the translation d6b622ab806bd452… (all of the seat's roots in one cut). By AI agents, Wed Nov 11 2026. No macro, syntax, notation, axiom, sorry.
-/
import Derived.Test.YtdajginkipaghaaChecked
import GoSem.Claim
import GoSem.ClaimJoined
import GoSem.ClaimMapViews
import Derived.JoinedTies
import Derived.KernelRfl
namespace Go.Proofs.Ytdajginkipaghaa
/- THE CELL 'sum', in the pinned program and in every row, IS THE sha256 OF THE DUMP (.gsa) THAT YtdajginkipaghaaProg.lean LOADS. Nothing in Lean hashes anything: it is a label: what it is worth is what the hold of that sum in a sandbox is worth. -/
noncomputable def Try.pinned : Pinned := { name := "ytdajginkipaghaa", sum := "d6b622ab806bd452b0589fdf288529b32538ab85d048f7928a4f330f43025ad5", checked := Try.checked }
namespace Rows
def none {H : Type} : Left H := { results := [], args := [] }

/-- 'switchbacklaw17.SsiNone': WHATEVER THE INPUT: true; the input reads as it did. -/
def ssiNoneSpec : ChangeSpec := { name := "ssiNone", fn := fun _ => fun
  | [d] => { results := [.lit (.bool true)], args := [d] }
  | _ => none }
def ssiNoneRow : OpenClaim := { program := "ytdajginkipaghaa", sum := "d6b622ab806bd452b0589fdf288529b32538ab85d048f7928a4f330f43025ad5", func := "switchback/switchbacklaw17.SsiNone", spec := "ssiNone", unfollowed := true, recurses := true, apart := false }
def SsiNoneSaid : Prop := ssiNoneRow.holds Try.pinned (OpenSpec.ofChange ssiNoneSpec)

/-- ITS FALSE NEIGHBOUR: 'it returns false'. Refute it at one input. -/
def ssiNoneWrong : ChangeSpec := { name := "ssiNone", fn := fun _ => fun
  | [d] => { results := [.lit (.bool false)], args := [d] }
  | _ => none }
def SsiNoneWrongFalsely : Prop := ssiNoneRow.holds Try.pinned (OpenSpec.ofChange ssiNoneWrong)

/-- 'switchbacklaw17.SsiOthers': WHATEVER THE INPUT: true; the input reads as it did. -/
def ssiOthersSpec : ChangeSpec := { name := "ssiOthers", fn := fun _ => fun
  | [d1, d2] => { results := [.lit (.bool true)], args := [d1, d2] }
  | _ => none }
def ssiOthersRow : OpenClaim := { program := "ytdajginkipaghaa", sum := "d6b622ab806bd452b0589fdf288529b32538ab85d048f7928a4f330f43025ad5", func := "switchback/switchbacklaw17.SsiOthers", spec := "ssiOthers", unfollowed := true, recurses := true, apart := false }
def SsiOthersSaid : Prop := ssiOthersRow.holds Try.pinned (OpenSpec.ofChange ssiOthersSpec)

/-- ITS FALSE NEIGHBOUR: 'it returns false'. Refute it at one input. -/
def ssiOthersWrong : ChangeSpec := { name := "ssiOthers", fn := fun _ => fun
  | [d1, d2] => { results := [.lit (.bool false)], args := [d1, d2] }
  | _ => none }
def SsiOthersWrongFalsely : Prop := ssiOthersRow.holds Try.pinned (OpenSpec.ofChange ssiOthersWrong)

/-- 'switchbacklaw17.SsiRetires': WHATEVER THE INPUT: true; the input reads as it did. -/
def ssiRetiresSpec : ChangeSpec := { name := "ssiRetires", fn := fun _ => fun
  | [d] => { results := [.lit (.bool true)], args := [d] }
  | _ => none }
def ssiRetiresRow : OpenClaim := { program := "ytdajginkipaghaa", sum := "d6b622ab806bd452b0589fdf288529b32538ab85d048f7928a4f330f43025ad5", func := "switchback/switchbacklaw17.SsiRetires", spec := "ssiRetires", unfollowed := true, recurses := true, apart := false }
def SsiRetiresSaid : Prop := ssiRetiresRow.holds Try.pinned (OpenSpec.ofChange ssiRetiresSpec)

/-- ITS FALSE NEIGHBOUR: 'it returns false'. Refute it at one input. -/
def ssiRetiresWrong : ChangeSpec := { name := "ssiRetires", fn := fun _ => fun
  | [d] => { results := [.lit (.bool false)], args := [d] }
  | _ => none }
def SsiRetiresWrongFalsely : Prop := ssiRetiresRow.holds Try.pinned (OpenSpec.ofChange ssiRetiresWrong)

/-- 'switchbacklaw17.SsiMay': WHATEVER THE INPUT: true; the input reads as it did. -/
def ssiMaySpec : ChangeSpec := { name := "ssiMay", fn := fun _ => fun
  | [d1, d2, d3] => { results := [.lit (.bool true)], args := [d1, d2, d3] }
  | _ => none }
def ssiMayRow : OpenClaim := { program := "ytdajginkipaghaa", sum := "d6b622ab806bd452b0589fdf288529b32538ab85d048f7928a4f330f43025ad5", func := "switchback/switchbacklaw17.SsiMay", spec := "ssiMay", unfollowed := true, recurses := true, apart := false }
def SsiMaySaid : Prop := ssiMayRow.holds Try.pinned (OpenSpec.ofChange ssiMaySpec)

/-- ITS FALSE NEIGHBOUR: 'it returns false'. Refute it at one input. -/
def ssiMayWrong : ChangeSpec := { name := "ssiMay", fn := fun _ => fun
  | [d1, d2, d3] => { results := [.lit (.bool false)], args := [d1, d2, d3] }
  | _ => none }
def SsiMayWrongFalsely : Prop := ssiMayRow.holds Try.pinned (OpenSpec.ofChange ssiMayWrong)

/- THE SECOND FORM. 'bulk': how many values and letters a reading holds, each counted each time it is reached (what is shared counts as often as it is met; a slice's spare places count too). A statement '..UptoSaid' is the law's where the arguments, and the package variables that the reading takes, are together of bulk at most 1048576: NARROWER than '..Said'. Prove '..Said' where nothing that the law and all that it calls make is longer than what came in: it says more and counts as full. Else prove '..UptoSaid'. A law counts once. -/
mutual
def uptoBulk {H : Type} : DataW H → Nat
  | .lit (.string bytes) => bytes.length + 1
  | .lit _ => 1
  | .nil => 1
  | .ptr d => uptoBulk d + 1
  | .slice elems spare => uptoBulkAll elems + uptoBulkAll spare + 1
  | .agg parts => uptoBulkAll parts + 1
  | .iface _ d => uptoBulk d + 1
  | .map entries => uptoBulkEntries entries + 1
  | .held _ => 1
def uptoBulkAll {H : Type} : List (DataW H) → Nat
  | [] => 0
  | d :: r => uptoBulk d + uptoBulkAll r
def uptoBulkEntries {H : Type} : List (Lit × DataW H) → Nat
  | [] => 0
  | x :: r => uptoBulkEntry x + uptoBulkEntries r
def uptoBulkEntry {H : Type} : Lit × DataW H → Nat
  | (.string bytes, d) => bytes.length + uptoBulk d + 1
  | (_, d) => uptoBulk d + 1
 end
def uptoSmall : (H : Type) → List (DataW H) → Bool := fun _ ds => decide (uptoBulkAll ds ≤ 1048576)
def OpenSpec.upto (s : _root_.Go.ChangeSpec) : _root_.Go.OpenSpec := { _root_.Go.OpenSpec.ofChange s with cond := some uptoSmall }

/-- 'switchbacklaw17.SsiNone', WHERE WHAT IT READS IS OF BULK AT MOST 1048576: true; the input reads as it did. -/
def ssiNoneUptoRow : OpenClaim := { program := "ytdajginkipaghaa", sum := "d6b622ab806bd452b0589fdf288529b32538ab85d048f7928a4f330f43025ad5", func := "switchback/switchbacklaw17.SsiNone", spec := "ssiNone", unfollowed := true, recurses := true, apart := false, narrowed := true }
def SsiNoneUptoSaid : Prop := ssiNoneUptoRow.holds Try.pinned (OpenSpec.upto ssiNoneSpec)

/-- 'switchbacklaw17.SsiOthers', WHERE WHAT IT READS IS OF BULK AT MOST 1048576: true; the input reads as it did. -/
def ssiOthersUptoRow : OpenClaim := { program := "ytdajginkipaghaa", sum := "d6b622ab806bd452b0589fdf288529b32538ab85d048f7928a4f330f43025ad5", func := "switchback/switchbacklaw17.SsiOthers", spec := "ssiOthers", unfollowed := true, recurses := true, apart := false, narrowed := true }
def SsiOthersUptoSaid : Prop := ssiOthersUptoRow.holds Try.pinned (OpenSpec.upto ssiOthersSpec)

/-- 'switchbacklaw17.SsiRetires', WHERE WHAT IT READS IS OF BULK AT MOST 1048576: true; the input reads as it did. -/
def ssiRetiresUptoRow : OpenClaim := { program := "ytdajginkipaghaa", sum := "d6b622ab806bd452b0589fdf288529b32538ab85d048f7928a4f330f43025ad5", func := "switchback/switchbacklaw17.SsiRetires", spec := "ssiRetires", unfollowed := true, recurses := true, apart := false, narrowed := true }
def SsiRetiresUptoSaid : Prop := ssiRetiresUptoRow.holds Try.pinned (OpenSpec.upto ssiRetiresSpec)

/-- 'switchbacklaw17.SsiMay', WHERE WHAT IT READS IS OF BULK AT MOST 1048576: true; the input reads as it did. -/
def ssiMayUptoRow : OpenClaim := { program := "ytdajginkipaghaa", sum := "d6b622ab806bd452b0589fdf288529b32538ab85d048f7928a4f330f43025ad5", func := "switchback/switchbacklaw17.SsiMay", spec := "ssiMay", unfollowed := true, recurses := true, apart := false, narrowed := true }
def SsiMayUptoSaid : Prop := ssiMayUptoRow.holds Try.pinned (OpenSpec.upto ssiMaySpec)

end Rows
end Go.Proofs.Ytdajginkipaghaa
