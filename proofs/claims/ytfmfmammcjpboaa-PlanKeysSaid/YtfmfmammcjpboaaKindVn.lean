/- A slice of values (api.Value) as an argument, nil told. -/
import Derived.Test.YtfmfmammcjpboaaKindV
import Derived.Test.YtfmfmammcjpboaaKindN
import Derived.Test.YtfmfmammcjpboaaEncW
namespace Go.Proofs.Ytfmfmammcjpboaa
open Go.RowKit
theorem opens_kVs : Opens Try.prog 58 kV.slice (fun l => l.length * 32 ≤ 140737488351232 ∧ ∀ x ∈ l, InR x.k ∧ InR x.n ∧ x.s.size ≤ 140737488351232) :=
  opens_slice Try.underlying58 (by kernel_rfl) (by kernel_rfl) opens_kV
theorem opens_kVn : Opens Try.prog 58 kV.nslice (fun l => l.length * 32 ≤ 140737488351232 ∧ ∀ x ∈ l, InR x.k ∧ InR x.n ∧ x.s.size ≤ 140737488351232) :=
  opens_nslice Try.underlying58 (by kernel_rfl) (by kernel_rfl) opens_kV
theorem rowV {w : World} {A : Option Addr} {l : List V} (h : kV.Row w A l) : RowE encVal 3 w A l := RowE.of (d := kV) (enc := encVal) (by decide) (fun _ _ _ h => kV_open h) h
theorem len32 {n : Nat} (h : n * 32 ≤ 140737488351232) : n ≤ 140737488355328 := by omega
end Go.Proofs.Ytfmfmammcjpboaa
