/- The kind of a value (api.Value). -/
import Derived.Test.YtfmfmammcjpboaaProg
import Derived.Test.YtfmfmammcjpboaaKinds
import Derived.Test.YtfmfmammcjpboaaSpec
namespace Go.Proofs.Ytfmfmammcjpboaa
open Go.RowKit
def kV : Kd V := (Kd.pair (Kd.int .i64) (Kd.pair (Kd.int .i64) Kd.str)).iso (fun v => (v.k, v.n, v.s))
theorem kV_open {w : World} {y : V} {cs : List Value} (h : kV.K w y cs) : cs = [.int .i64 y.k, .int .i64 y.n, .string y.s] := by
  obtain ⟨_, _, rfl, rfl, _, _, rfl, rfl, rfl⟩ := h
  rfl
theorem kV_mk (w : World) (y : V) : kV.K w y [.int .i64 y.k, .int .i64 y.n, .string y.s] := ⟨[_], [_, _], rfl, rfl, [_], [_], rfl, rfl, rfl⟩
theorem opens_kV : Opens Try.prog 28 kV (fun v => InR v.k ∧ InR v.n ∧ v.s.size ≤ 140737488351232) :=
  opens_iso (opens_struct Try.underlying28 (by kernel_rfl)
    (opensF_cons rfl (by kernel_rfl) (opens_int Try.underlying3) (opensF_cons rfl (by kernel_rfl) (opens_int Try.underlying3) (opensF_one rfl (by kernel_rfl) (opens_str Try.underlying9)))))
    _ (fun y => ⟨y.1, y.2.1, y.2.2⟩) (fun _ => rfl) _ (fun _ h => ⟨inR_wf h.1, inR_wf h.2.1, h.2.2⟩)
end Go.Proofs.Ytfmfmammcjpboaa
