/- Package btree, in plain Lean: what reads a state. -/
import Derived.Test.YtkecbghnapjecaaLines
import Derived.Test.YtkecbghnapjecaaBox
namespace Go.Proofs.Ytkecbghnapjecaa
open Go.RowKit
set_option linter.unusedVariables false
set_option linter.unusedSimpArgs false
def encS (s : ByteArray) : List Value := [.string s]
theorem encS_len (s : ByteArray) : (encS s).length = 1 := rfl
def encI (n : Int) : List Value := [.int .i64 n]
theorem encI_len (n : Int) : (encI n).length = 1 := rfl
def sless (a b : ByteArray) : Bool := Op.bytesLess a.toList b.toList
/-- A state's node. -/
structure Nd where
  keys : List ByteArray
  vals : List ByteArray
  kids : List Int
/-- A tree in memory. -/
inductive Tr where
  | mk : List ByteArray → List ByteArray → List Tr → Tr
def okKey (lo hi prev : Option ByteArray) (k : ByteArray) : Bool :=
  (match prev with | none => true | some p => sless p k) && ((match lo with | none => true | some l => !sless k l) && (match hi with | none => true | some h => sless k h))
def withinB (lo hi : Option ByteArray) : Option ByteArray → List ByteArray → Bool
  | _, [] => true
  | p, k :: ks => okKey lo hi p k && withinB lo hi (some k) ks
/-- What goes over a state's nodes knows: which were met, how deep leaves are, how many pairs. -/
structure Rd where
  met : List Int
  leaf : Int
  pairs : Int
def kidsS (go : Rd → Int → Option ByteArray → Option ByteArray → Option (Tr × Rd)) (keys : List ByteArray) (lo hi : Option ByteArray) : Nat → List Int → Rd → Option (List Tr × Rd)
  | _, [], r => some ([], r)
  | i, k :: ks, r =>
    match go r k (if i = 0 then lo else keys[i - 1]?) (if i < keys.length then keys[i]? else hi) with
    | none => none
    | some (t, r1) => match kidsS go keys lo hi (i + 1) ks r1 with | none => none | some (ts, r2) => some (t :: ts, r2)
def fewS (level : Int) : Nat := if level = 1 then 1 else 2
def nodeS (s : List Nd) : Nat → Rd → Int → Int → Option ByteArray → Option ByteArray → Option (Tr × Rd)
  | 0, _, _, _, _, _ => none
  | f + 1, r, level, a, lo, hi =>
    match (if 0 ≤ a ∧ a < s.length ∧ r.met.contains a = false then s[a.toNat]? else none) with
    | none => none
    | some n =>
      if (decide (fewS level ≤ n.keys.length ∧ n.keys.length ≤ 4) && withinB lo hi none n.keys) = false then none
      else if n.kids = [] then
        if n.vals.length = n.keys.length ∧ (r.leaf = 0 ∨ r.leaf = level) ∧ r.pairs + n.keys.length ≤ 2048 then some (.mk n.keys n.vals [], ⟨a :: r.met, level, r.pairs + n.keys.length⟩) else none
      else if n.vals.length = 0 ∧ n.kids.length = n.keys.length + 1 then
        match kidsS (fun r k lo hi => nodeS s f r (level + 1) k lo hi) n.keys lo hi 0 n.kids ⟨a :: r.met, r.leaf, r.pairs⟩ with
        | none => none
        | some (ts, r2) => some (.mk n.keys n.vals ts, r2)
      else none
end Go.Proofs.Ytkecbghnapjecaa
