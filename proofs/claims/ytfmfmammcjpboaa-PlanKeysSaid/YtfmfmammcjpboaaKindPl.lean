/- The kinds of a bound and of a plan of the page's. -/
import Derived.Test.YtfmfmammcjpboaaKindV
import Derived.Test.YtfmfmammcjpboaaMeetW2
namespace Go.Proofs.Ytfmfmammcjpboaa
open Go.RowKit
def kBd : Kd Bd := (Kd.pair Kd.bool (Kd.pair kV Kd.bool)).iso (fun b => (b.op, b.v, b.inn))
def fitV (v : V) : Prop := InR v.k ∧ InR v.n ∧ v.s.size ≤ 140737488351232
theorem kBd_open {w : World} {y : Bd} {cs : List Value} (h : kBd.K w y cs) : cs = [.bool y.op, .int .i64 y.v.k, .int .i64 y.v.n, .string y.v.s, .bool y.inn] := by
  obtain ⟨_, _, rfl, rfl, _, _, rfl, h1, rfl⟩ := h
  rw [kV_open h1]
  rfl
theorem opens_kBd : Opens Try.prog 40 kBd (fun b => fitV b.v) :=
  opens_iso (opens_struct Try.underlying40 (by kernel_rfl)
    (opensF_cons rfl (by kernel_rfl) (opens_bool Try.underlying4) (opensF_cons rfl (by kernel_rfl) opens_kV (opensF_one rfl (by kernel_rfl) (opens_bool Try.underlying4)))))
    _ (fun y => ⟨y.1, y.2.1, y.2.2⟩) (fun _ => rfl) _ (fun _ h => h.2.1)
def kPl : Kd Pl := (Kd.pair (Kd.int .i64) (Kd.pair kBd (Kd.pair kBd Kd.bool))).iso (fun p => (p.ix, p.lo, p.hi, p.emp))
theorem kPl_open {w : World} {y : Pl} {cs : List Value} (h : kPl.K w y cs) : cs = [.int .i64 y.ix, .bool y.lo.op, .int .i64 y.lo.v.k, .int .i64 y.lo.v.n, .string y.lo.v.s, .bool y.lo.inn, .bool y.hi.op, .int .i64 y.hi.v.k, .int .i64 y.hi.v.n, .string y.hi.v.s, .bool y.hi.inn, .bool y.emp] := by
  obtain ⟨_, _, rfl, rfl, _, _, rfl, h1, _, _, rfl, h2, rfl⟩ := h
  rw [kBd_open h1, kBd_open h2]
  rfl
theorem opens_kPl : Opens Try.prog 42 kPl (fun p => InR p.ix ∧ fitV p.lo.v ∧ fitV p.hi.v) :=
  opens_iso (opens_struct Try.underlying42 (by kernel_rfl)
    (opensF_cons rfl (by kernel_rfl) (opens_int Try.underlying3) (opensF_cons rfl (by kernel_rfl) opens_kBd (opensF_cons rfl (by kernel_rfl) opens_kBd (opensF_one rfl (by kernel_rfl) (opens_bool Try.underlying4))))))
    _ (fun y => ⟨y.1, y.2.1, y.2.2.1, y.2.2.2⟩) (fun _ => rfl) _ (fun _ h => ⟨inR_wf h.1, h.2.1, h.2.2.1⟩)
end Go.Proofs.Ytfmfmammcjpboaa
