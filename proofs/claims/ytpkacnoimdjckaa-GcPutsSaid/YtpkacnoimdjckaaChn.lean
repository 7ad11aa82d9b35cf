/- Chains: keys and rows of versions; what may be. -/
import Derived.Test.YtpkacnoimdjckaaVerW
import Derived.Test.YtpkacnoimdjckaaBox
namespace Go.Proofs.Ytpkacnoimdjckaa
open Go.RowKit
set_option linter.unusedVariables false
set_option linter.unusedSimpArgs false
def encS (s : ByteArray) : List Value := [.string s]
theorem encS_len (s : ByteArray) : (encS s).length = 1 := rfl
def lt? (a b : ByteArray) : Bool := Op.bytesLess a.toList b.toList
/-- A row of slices, each of versions. -/
def RowL (w : World) (A : Option Addr) (ls : List (List Ver)) : Prop :=
  ∀ (i : Nat) (l : List Ver), ls[i]? = some l → ∃ b off v, A = some ⟨b, off, none⟩ ∧ b < w.heap.size ∧ w.cell? ⟨b, off + i, none⟩ = some v ∧ SlE encVer 4 w v l
theorem RowL.below {w w1 : World} {A : Option Addr} {ls : List (List Ver)} (h : RowL w A ls) (hb : Below w.heap.size w w1) : RowL w1 A ls := fun i l hi => by
  obtain ⟨b, off, v, hA, hlt, hc, hs⟩ := h i l hi
  exact ⟨b, off, v, hA, Nat.lt_of_lt_of_le hlt hb.size, (hb.cell (p := ⟨b, off + i, none⟩) hlt).trans hc, hs.below hb⟩
theorem RowL.nil {w : World} {A : Option Addr} : RowL w A [] := fun i l h => by simp at h
def after? : Option ByteArray → ByteArray → Bool
  | none, _ => true
  | some q, k => lt? q k
def chkCFrom : Option ByteArray → List ByteArray → List (List Ver) → Bool
  | p, k :: ks, l :: ls => after? p k && !l.isEmpty && (chk l == 0) && chkCFrom (some k) ks ls
  | _, _, _ => true
/-- gc.Check. -/
def chkC (ks : List ByteArray) (ls : List (List Ver)) : Int := if ks.length ≠ ls.length ∨ 2048 < ks.length then 9 else if chkCFrom none ks ls then 0 else 9
theorem chkC_cons (p : Option ByteArray) (k : ByteArray) (ks : List ByteArray) (l : List Ver) (ls : List (List Ver)) : chkCFrom p (k :: ks) (l :: ls) = (after? p k && !l.isEmpty && (chk l == 0) && chkCFrom (some k) ks ls) := by conv => lhs; unfold chkCFrom
theorem chkC_or (ks : List ByteArray) (ls : List (List Ver)) : chkC ks ls = 0 ∨ chkC ks ls = 9 := by unfold chkC; (repeat' split) <;> simp
end Go.Proofs.Ytpkacnoimdjckaa
