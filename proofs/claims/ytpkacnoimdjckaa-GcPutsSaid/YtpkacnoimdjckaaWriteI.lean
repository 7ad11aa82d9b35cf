/- Package version: Write, where a new version comes ahead of the others. -/
import Derived.Test.YtpkacnoimdjckaaWriteW
import Derived.Deep.RegionHeld3
namespace Go.Proofs.Ytpkacnoimdjckaa
open Go.RowKit
open Go.Shelf
set_option linter.unusedVariables false
set_option linter.unusedSimpArgs false
theorem below_drew' {B : Nat} {w W : World} (h : Below B w W) : Below B w W.drew := h.drew
theorem own_mono {w : World} {base base' : Nat} {e : TypeId} {size : Nat} {v : Value} {n : Nat} {xs : List Value} (h : w.ownsRow base e size v n xs) (hb : base' ≤ base) : w.ownsRow base' e size v n xs :=
  ⟨h.1, h.2.imp id (fun ⟨g, cap, cur, a, b, c⟩ => ⟨g, cap, cur, a, Nat.le_trans hb b, c⟩)⟩
theorem clone_from (A : Option Addr) (c : Nat) (l : List Ver) (W : World) (HA : RowE encVer 4 W A l) (hn : A = none → c = 0) (hl : l.length ≤ 1000) (C : World) (hC : Below W.heap.size W C) :
    Calls Try.prog 48 #[.slice A l.length c] C fun e w' => ∃ v, e = .returned v ∧ w'.ownsRow W.heap.size 45 4 v l.length (l.flatMap encVer) ∧ Below C.heap.size C w' ∧ (∀ k, v.ownBlock = some k → C.heap.size ≤ k ∧ k < w'.heap.size) ∧ Below W.heap.size W w' := by
  refine (clone_own A c l C (HA.below hC) hn hl).mono ?_
  rintro e w' ⟨v, rfl, ho, hb⟩
  exact ⟨v, rfl, own_mono ho hC.size, hb, ho.lt, below_step' hC hb⟩
end Go.Proofs.Ytpkacnoimdjckaa
