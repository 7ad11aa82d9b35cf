/- Steps as an argument. -/
import Derived.Test.YtdajginkipaghaaProg
import Derived.Test.YtdajginkipaghaaKinds
import Derived.Test.YtdajginkipaghaaNoneW
import Derived.Test.YtdajginkipaghaaLines
namespace Go.Proofs.Ytdajginkipaghaa
open Go.RowKit
def kStp : Kd Stp := (Kd.pair (Kd.int .i64) (Kd.pair (Kd.int .i64) (Kd.int .i64))).iso (fun v => (v.wh, v.a, v.b))
theorem kStp_open {w : World} {y : Stp} {cs : List Value} (h : kStp.K w y cs) : cs = encP y := by
  obtain ⟨_, _, rfl, rfl, _, _, rfl, rfl, rfl⟩ := h
  rfl
theorem opens_kStp : Opens Try.prog 29 kStp (fun _ => True) :=
  opens_iso (opens_struct Try.underlying29 (by kernel_rfl)
    (opensF_cons rfl (by kernel_rfl) (opens_int Try.underlying3) (opensF_cons rfl (by kernel_rfl) (opens_int Try.underlying3) (opensF_one rfl (by kernel_rfl) (opens_int Try.underlying3)))))
    _ (fun y => ⟨y.1, y.2.1, y.2.2⟩) (fun _ => rfl) _ (fun _ _ => trivial)
theorem opens_kStps : Opens Try.prog 22 kStp.slice (fun l => l.length * 24 ≤ 140737488351232 ∧ ∀ x ∈ l, True) :=
  opens_slice Try.underlying22 (by kernel_rfl) (by kernel_rfl) opens_kStp
theorem rowP {w : World} {A : Option Addr} {l : List Stp} (h : kStp.Row w A l) : RowE encP 3 w A l := RowE.of (d := kStp) (enc := encP) (by decide) (fun _ _ _ h => kStp_open h) h
end Go.Proofs.Ytdajginkipaghaa
