/- The page's chain as an argument. -/
import Derived.Test.YtnppiclmohadfaaProg
import Derived.Test.YtnppiclmohadfaaKinds
import Derived.Test.YtnppiclmohadfaaVer
import Derived.Test.YtnppiclmohadfaaLines
namespace Go.Proofs.Ytnppiclmohadfaa
open Go.RowKit
def kRef : Kd Ver := (Kd.pair (Kd.int .i64) (Kd.pair (Kd.int .i64) (Kd.pair Kd.bool Kd.str))).iso (fun v => (v.st, v.tx, v.gone, v.val))
theorem kRef_open {w : World} {y : Ver} {cs : List Value} (h : kRef.K w y cs) : cs = encVer y := by
  obtain ⟨_, _, rfl, rfl, _, _, rfl, rfl, _, _, rfl, rfl, rfl⟩ := h
  rfl
theorem opens_kRef : Opens Try.prog 36 kRef (fun _ => True) :=
  opens_iso (opens_struct Try.underlying36 (by kernel_rfl)
    (opensF_cons rfl (by kernel_rfl) (opens_int Try.underlying3) (opensF_cons rfl (by kernel_rfl) (opens_int Try.underlying3) (opensF_cons rfl (by kernel_rfl) (opens_bool Try.underlying4) (opensF_one rfl (by kernel_rfl) (opens_str Try.underlying9))))))
    _ (fun y => ⟨y.1, y.2.1, y.2.2.1, y.2.2.2⟩) (fun _ => rfl) _ (fun _ _ => trivial)
theorem opens_kRefs : Opens Try.prog 22 kRef.slice (fun l => l.length * 40 ≤ 140737488351232 ∧ ∀ x ∈ l, True) :=
  opens_slice Try.underlying22 (by kernel_rfl) (by kernel_rfl) opens_kRef
theorem rowR {w : World} {A : Option Addr} {l : List Ver} (h : kRef.Row w A l) : RowE encVer 4 w A l := RowE.of (d := kRef) (enc := encVer) (by decide) (fun _ _ _ h => kRef_open h) h
end Go.Proofs.Ytnppiclmohadfaa
