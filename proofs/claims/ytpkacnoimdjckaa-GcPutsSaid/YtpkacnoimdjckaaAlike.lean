/- The laws' Alike: two chains, side by side. -/
import Derived.Test.YtpkacnoimdjckaaUndoW
import Derived.Laws.StructEq
namespace Go.Proofs.Ytpkacnoimdjckaa
open Go.RowKit
open Go.Shelf
set_option linter.unusedVariables false
set_option linter.unusedSimpArgs false
def sameVB (x0 x1 : Int) (x2 : Bool) (x3 : ByteArray) (y0 y1 : Int) (y2 : Bool) (y3 : ByteArray) : Bool := x0 == y0 && (x1 == y1 && (x2 == y2 && x3.toList == y3.toList))
theorem eqVer (d : Nat) (w : World) (x0 y0 x1 y1 : Int) (x2 y2 : Bool) (x3 y3 : ByteArray) :
    (Op.equalIn (d + 2) 41 (.agg #[.int .i64 x0, .int .i64 x1, .bool x2, .string x3]) (.agg #[.int .i64 y0, .int .i64 y1, .bool y2, .string y3])).run Try.prog w = .ok (sameVB x0 x1 x2 x3 y0 y1 y2 y3) w := by
  refine eqA_of Try.underlying41 (by kernel_rfl) ?_
  refine eqf_cons (by rfl) (by go_simp; rfl) (by go_simp; rfl) (by go_simp) ?_
  refine eqf_cons (by rfl) (by go_simp; rfl) (by go_simp; rfl) (by go_simp) ?_
  refine eqf_cons (by rfl) (by go_simp; rfl) (by go_simp; rfl) (by go_simp) ?_
  exact eqf_last (by rfl) (by go_simp; rfl) (by go_simp; rfl) (by go_simp)
attribute [local go_sem high] eqVer
set_option maxHeartbeats 4000000 in
set_option maxRecDepth 100000 in
/-- Two like chains. -/
theorem alike_same (A B : Option Addr) (c d : Nat) (l : List Ver) (w : World) (HA : RowE encVer 4 w A l) (HM : RowE encVer 4 w B l) (hl : l.length ≤ 140737488355328) :
    Calls Try.prog 34 #[.slice A l.length c, .slice B l.length d] w fun e w' => e = .returned (.int .i64 0) ∧ Below w.heap.size w w' := by
  have HA' := Lib.hid HA
  have HM' := Lib.hid HM
  clear HA HM
  go_enter Try.func34, Try.ntmps34
  go_wp2
  go_loopw [5] (fun i wr => ∃ j : Nat, j ≤ l.length ∧ i = .int .i64 j ∧ Below w.heap.size w wr) (fun i _ => l.length - (Lib.intOf i).toNat)
  case atStart => exact ⟨0, Nat.zero_le _, rfl, Below.refl _ _⟩
  case round =>
    obtain ⟨j, hj, rfl, hbel⟩ := hrel
    by_cases hlt : j < l.length
    · obtain ⟨x, hx⟩ : ∃ x, l[j]? = some x := ⟨_, List.getElem?_eq_getElem hlt⟩
      obtain ⟨b0, off, rfl, hb0, g0, g1, g2, g3⟩ := HA'.out.four (B := 0) hx hbel
      obtain ⟨b1, off1, rfl, hb1, p0, p1, p2, p3⟩ := HM'.out.four (B := 0) hx hbel
      obtain ⟨st, tx, g, val⟩ := x
      dsimp only at g0 g1 g2 g3 p0 p1 p2 p3
      have hs : sameVB st tx g val st tx g val = true := by simp [sameVB]
      have i1 : (j : Int) < (l.length : Int) := by omega
      clear hx
      go_wp2_with fail
      go_quiet (fail)
      go_wp2
      go_roundw
      case rel => exact ⟨j + 1, by omega, by go_num, below_drewN hbel _⟩
      case measure => simp [Lib.intOf]; omega
    · obtain rfl : j = l.length := by omega
      go_wp2
      go_ret
      exact ⟨rfl, hbel⟩
end Go.Proofs.Ytpkacnoimdjckaa
