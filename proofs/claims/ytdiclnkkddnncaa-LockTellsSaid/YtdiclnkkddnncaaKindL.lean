/- The page's locks as arguments. -/
import Derived.Test.YtdiclnkkddnncaaProg
import Derived.Test.YtdiclnkkddnncaaKinds
import Derived.Test.YtdiclnkkddnncaaLk
import Derived.Test.YtdiclnkkddnncaaLines
namespace Go.Proofs.Ytdiclnkkddnncaa
open Go.RowKit
def kLk : Kd Lk := (Kd.pair (Kd.int .i64) (Kd.pair Kd.str Kd.str)).iso (fun v => (v.tx, v.lo, v.hi))
theorem kLk_open {w : World} {y : Lk} {cs : List Value} (h : kLk.K w y cs) : cs = [.int .i64 y.tx, .string y.lo, .string y.hi] := by
  obtain ⟨_, _, rfl, rfl, _, _, rfl, rfl, rfl⟩ := h
  rfl
theorem opens_kLk : Opens Try.prog 26 kLk (fun _ => True) :=
  opens_iso (opens_struct Try.underlying26 (by kernel_rfl)
    (opensF_cons rfl (by kernel_rfl) (opens_int Try.underlying3) (opensF_cons rfl (by kernel_rfl) (opens_str Try.underlying9) (opensF_one rfl (by kernel_rfl) (opens_str Try.underlying9)))))
    _ (fun y => ⟨y.1, y.2.1, y.2.2⟩) (fun _ => rfl) _ (fun _ _ => trivial)
theorem opens_kLks : Opens Try.prog 22 kLk.slice (fun l => l.length * 40 ≤ 140737488351232 ∧ ∀ x ∈ l, True) :=
  opens_slice Try.underlying22 (by kernel_rfl) (by kernel_rfl) opens_kLk
def kLst : Kd (List Lk) := kLk.slice
theorem rowL {w : World} {A : Option Addr} {l : List Lk} (h : kLk.Row w A l) : RowE encL 3 w A l := RowE.of (d := kLk) (enc := encL) (by decide) (fun _ _ _ h => kLk_open h) h
theorem kLst_open {w : World} {y : List Lk} {cs : List Value} (h : kLst.K w y cs) : ∃ A c, cs = [.slice A y.length c] ∧ y.length ≤ c ∧ RowE encL 3 w A y := by
  obtain ⟨A, c, rfl, h1, h2⟩ := h
  exact ⟨A, c, rfl, h1, rowL h2⟩
theorem opens_kLst : Opens Try.prog 24 kLst (fun l => l.length * 40 ≤ 140737488351232 ∧ ∀ x ∈ l, True) :=
  opens_struct Try.underlying24 (by kernel_rfl) (opensF_one rfl (by kernel_rfl) opens_kLks)
end Go.Proofs.Ytdiclnkkddnncaa
