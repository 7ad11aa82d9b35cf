/- What package ssi reckons, in plain Lean. -/
import Derived.Test.YtdajginkipaghaaSsi
namespace Go.Proofs.Ytdajginkipaghaa
open Go.RowKit
set_option linter.unusedVariables false
set_option linter.unusedSimpArgs false
structure St where
  l : List Tx
  clk : Int
  nxt : Int
def St.chk (s : St) : Int := Go.Proofs.Ytdajginkipaghaa.chk s.l s.clk s.nxt
def St.zero : St := ⟨[], 0, 0⟩
def Tx.ends (t : Tx) (e : Int) : Tx := { t with en := e }
def Tx.outs (t : Tx) : Tx := { t with out := true }
def Tx.inns (t : Tx) : Tx := { t with inn := true }
def beginR (s : St) : St × Int × Int :=
  if s.chk ≠ 0 then (St.zero, 0, s.chk) else if s.l.length = 64 ∨ s.nxt = 1099511627776 then (St.zero, 0, 51)
  else (⟨s.l ++ [⟨s.nxt, s.clk, 0, false, false⟩], s.clk, s.nxt + 1⟩, s.nxt, 0)
def commitR (s : St) (id : Int) : St × Int × Int :=
  if s.chk ≠ 0 then (St.zero, 0, s.chk) else match at? id s.l with
  | none => (St.zero, 0, 71)
  | some (i, x) => if x.en ≠ 0 then (St.zero, 0, 9) else if x.inn = true ∧ x.out = true then (St.zero, 0, 96) else if s.clk = 1099511627776 then (St.zero, 0, 51)
    else (⟨s.l.set i (x.ends (s.clk + 1)), s.clk + 1, s.nxt⟩, s.clk + 1, 0)
def abortR (s : St) (id : Int) : St × Int :=
  if s.chk ≠ 0 then (St.zero, s.chk) else match at? id s.l with
  | none => (St.zero, 71)
  | some (i, x) => if x.en ≠ 0 then (St.zero, 9) else (⟨s.l.set i (x.ends (-1)), s.clk, s.nxt⟩, 0)
def ahead (x y : Tx) : Bool := decide (0 < x.en) && decide (x.en ≤ y.st)
def hor : Int → List Tx → Int
  | n, [] => n
  | n, t :: l => hor (if t.en = 0 then min n t.st else n) l
def horizonR (s : St) : Int × Int := if s.chk ≠ 0 then (0, s.chk) else (hor s.clk s.l, 0)
def gone (n : Int) (t : Tx) : Bool := decide (t.en < 0) || (decide (0 < t.en) && decide (t.en ≤ n))
def retireR (s : St) : St × List Int × Int :=
  if s.chk ≠ 0 then (St.zero, [], s.chk) else (⟨s.l.filter (fun t => !gone (hor s.clk s.l) t), s.clk, s.nxt⟩, (s.l.filter (gone (hor s.clk s.l))).map (·.id), 0)
/-- What the reader becomes, and the writer; who is to be given up. -/
def rdr (x : Tx) : Tx := if x.inn = true ∧ x.en ≠ 0 then x else x.outs
def wtr (y : Tx) : Tx := if y.out = true ∧ y.en ≠ 0 then y else y.inns
def giveR (x y : Tx) : Bool := (x.inn && x.en == 0) || (y.out && y.en != 0 && x.en == 0)
def giveW (x y : Tx) : Bool := (y.out && y.en == 0) || (x.inn && x.en != 0 && y.en == 0)
def apart (x y : Tx) : Bool := decide (min x.en y.en < 0) || ahead x y || ahead y x
def edgeR (s : St) (r w : Int) : St × List Int × Int :=
  if s.chk ≠ 0 then (St.zero, [], s.chk) else match at? r s.l, at? w s.l with
  | some (i, x), some (j, y) => if i = j ∨ apart x y = true then (s, [], 0)
    else (⟨(s.l.set i (rdr x)).set j (wtr y), s.clk, s.nxt⟩, (if giveR x y then [r] else []) ++ (if giveW x y then [w] else []), 0)
  | _, _ => (St.zero, [], 71)
theorem chk_sorted {s : St} (h : s.chk = 0) : s.l.Pairwise two := ((chk_iff _ _ _).1 h).2.2.2.2.2.2
theorem chk_fit {s : St} (h : s.chk = 0) : ∀ t ∈ s.l, fit s.clk s.nxt t := ((chk_iff _ _ _).1 h).2.2.2.2.2.1
theorem chk_len {s : St} (h : s.chk = 0) : s.l.length ≤ 64 := ((chk_iff _ _ _).1 h).1
/-- One id stands in one place. -/
theorem same_place {l : List Tx} (h : l.Pairwise two) {i j : Nat} {x y : Tx} (hi : l[i]? = some x) (hj : l[j]? = some y) (e : x.id = y.id) : i = j ∧ x = y := by
  rcases Nat.lt_trichotomy i j with k | k | k
  · have := (sorted_get h hi hj k).1; omega
  · subst k; rw [hi] at hj; exact ⟨rfl, Option.some.inj hj⟩
  · have := (sorted_get h hj hi k).1; omega
theorem at_of {l : List Tx} (h : l.Pairwise two) {i : Nat} {x : Tx} (hi : l[i]? = some x) : at? x.id l = some (i, x) := by
  cases e : at? x.id l with
  | none => exact absurd rfl (at_none e x (List.mem_of_getElem? hi))
  | some p =>
    obtain ⟨j, y⟩ := p
    obtain ⟨h1, h2⟩ := at_some e
    obtain ⟨rfl, rfl⟩ := same_place h hi h1 h2.symm
    rfl
end Go.Proofs.Ytdajginkipaghaa
