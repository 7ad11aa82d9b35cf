/- Locks, in plain Lean. -/
import Derived.Test.YtdiclnkkddnncaaOrd2
namespace Go.Proofs.Ytdiclnkkddnncaa
open Go.RowKit
set_option linter.unusedVariables false
set_option linter.unusedSimpArgs false
structure Lk where
  tx : Int
  lo : ByteArray
  hi : ByteArray
def encL (x : Lk) : List Value := [.int .i64 x.tx, .string x.lo, .string x.hi]
theorem encL_len (x : Lk) : (encL x).length = 3 := rfl
theorem encL_one : ∀ (l : List Lk), ∀ u ∈ l.flatMap encL, u.oneCell' = true := fun l u hu => by
  obtain ⟨x, _, hx⟩ := List.mem_flatMap.1 hu
  simp [encL] at hx
  rcases hx with rfl | rfl | rfl <;> rfl
/-- Is a text empty, less, the same? -/
def nil? (a : ByteArray) : Bool := a.toList == []
def lt? (a b : ByteArray) : Bool := Op.bytesLess a.toList b.toList
def eq? (a b : ByteArray) : Bool := a.toList == b.toList
def endsR (a b : ByteArray) : Int := if eq? a b then 0 else if nil? a then 1 else if nil? b then -1 else cmpS a b
def mayL (x : Lk) : Bool := decide (1 ≤ x.tx) && decide (x.tx ≤ 1099511627776) && (nil? x.hi || lt? x.lo x.hi)
def lorder (a b : Lk) : Int := if cmpI a.tx b.tx ≠ 0 then cmpI a.tx b.tx else if cmpS a.lo b.lo ≠ 0 then cmpS a.lo b.lo else endsR a.hi b.hi
def within (x y : Lk) : Bool := (x.tx == y.tx) && !lt? x.lo y.lo && decide (endsR x.hi y.hi ≤ 0)
def touches (x y : Lk) : Bool := (x.tx == y.tx) && (nil? x.hi || !lt? x.hi y.lo) && (nil? y.hi || !lt? y.hi x.lo)
def minS (a b : ByteArray) : ByteArray := if lt? b a then b else a
def joinL (x y : Lk) : Lk := ⟨x.tx, minS x.lo y.lo, if endsR x.hi y.hi < 0 then y.hi else x.hi⟩
def after? : Option Lk → Lk → Bool
  | none, _ => true
  | some y, x => decide (lorder y x < 0)
def chkLFrom : Option Lk → List Lk → Bool
  | _, [] => true
  | p, x :: l => mayL x && after? p x && chkLFrom (some x) l
def chkL (l : List Lk) : Int := if 512 < l.length then 9 else if chkLFrom none l then 0 else 9
end Go.Proofs.Ytdiclnkkddnncaa
