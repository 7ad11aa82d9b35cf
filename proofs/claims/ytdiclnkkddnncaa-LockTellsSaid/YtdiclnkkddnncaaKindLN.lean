/- The page's locks as arguments, with what nil tells. -/
import Derived.Test.YtdiclnkkddnncaaKindL
import Derived.Test.YtdiclnkkddnncaaKindN
namespace Go.Proofs.Ytdiclnkkddnncaa
open Go.RowKit
set_option linter.unusedVariables false
set_option linter.unusedSimpArgs false
def kLn : Kd (List Lk) := kLk.nslice
theorem kLn_open {w : World} {y : List Lk} {cs : List Value} (h : kLn.K w y cs) : ∃ A c, cs = [.slice A y.length c] ∧ y.length ≤ c ∧ RowE encL 3 w A y ∧ (A = none → c = 0) := by
  obtain ⟨A, c, rfl, h1, h2, h3⟩ := h
  exact ⟨A, c, rfl, h1, rowL h2, h3⟩
theorem opens_kLn : Opens Try.prog 24 kLn (fun l => l.length * 40 ≤ 140737488351232 ∧ ∀ x ∈ l, True) :=
  opens_struct Try.underlying24 (by kernel_rfl) (opensF_one rfl (by kernel_rfl) (opens_nslice Try.underlying22 (by kernel_rfl) (by kernel_rfl) opens_kLk))
end Go.Proofs.Ytdiclnkkddnncaa
