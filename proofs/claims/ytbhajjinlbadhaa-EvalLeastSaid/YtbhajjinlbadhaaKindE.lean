/- An expression as an argument: its own cells. -/
import Derived.Test.YtbhajjinlbadhaaProg
import Derived.Test.YtbhajjinlbadhaaKindV
import Derived.Test.YtbhajjinlbadhaaLines
import Derived.Test.YtbhajjinlbadhaaKindN
import Derived.Test.YtbhajjinlbadhaaEvS
namespace Go.Proofs.Ytbhajjinlbadhaa
open Go.RowKit
/-- Any slice, whatever lies in it. -/
def kAny : Kd (Option Addr × Nat × Nat) := ⟨1, fun _ x cs => cs = [.slice x.1 x.2.1 x.2.2], fun h => by rw [h]; rfl, fun _ h => h⟩
theorem opens_any {P : Program} {t e : TypeId} (ht : P.underlying t = some (.slice e)) : Opens P t kAny (fun _ => True) := fun {H enc w base spare held fuel cs x} hx _ => by
  rcases DataW.trod_slice ht hx with ⟨rfl, rfl⟩ | ⟨a, len, cap, elems, rest, n, _, rfl, rfl, _, hle, _, hl, hel, _, _⟩
  · exact ⟨(none, 0, 0), rfl, trivial⟩
  · exact ⟨(some a, len, cap), rfl, trivial⟩
structure Ey where
  op : Int
  v : V
  tb : ByteArray
  nm : ByteArray
  A : Option Addr
  n : Nat
  c : Nat
def kEx : Kd Ey := (Kd.pair (Kd.int .i64) (Kd.pair kV (Kd.pair Kd.str (Kd.pair Kd.str kAny)))).iso (fun y => (y.op, y.v, y.tb, y.nm, y.A, y.n, y.c))
theorem kEx_open {w : World} {y : Ey} {cs : List Value} (h : kEx.K w y cs) : cs = [.int .i64 y.op, .int .i64 y.v.k, .int .i64 y.v.n, .string y.v.s, .string y.tb, .string y.nm, .slice y.A y.n y.c] := by
  obtain ⟨_, _, rfl, rfl, _, _, rfl, hv, _, _, rfl, rfl, _, _, rfl, rfl, rfl⟩ := h
  rw [kV_open hv]; rfl
theorem opens_kEx : Opens Try.prog 26 kEx (fun _ => True) :=
  opens_iso (opens_struct Try.underlying26 (by kernel_rfl)
    (opensF_cons rfl (by kernel_rfl) (opens_int Try.underlying3) (opensF_cons rfl (by kernel_rfl) opens_kV (opensF_cons rfl (by kernel_rfl) (opens_str Try.underlying9) (opensF_cons rfl (by kernel_rfl) (opens_str Try.underlying9) (opensF_one rfl (by kernel_rfl) (opens_any Try.underlying24)))))))
    _ (fun y => ⟨y.1, y.2.1, y.2.2.1, y.2.2.2.1, y.2.2.2.2.1, y.2.2.2.2.2.1, y.2.2.2.2.2.2⟩) (fun _ => rfl) _ (fun _ _ => trivial)
theorem opens_kVn : Opens Try.prog 27 kV.nslice (fun l => l.length * 32 ≤ 140737488351232 ∧ ∀ x ∈ l, InR x.k ∧ InR x.n ∧ x.s.size ≤ 140737488351232) :=
  opens_nslice Try.underlying27 (by kernel_rfl) (by kernel_rfl) opens_kV
theorem rowU {w : World} {A : Option Addr} {l : List V} (h : kV.Row w A l) : RowE encU 3 w A l := RowE.of (d := kV) (enc := encU) (by decide) (fun _ _ _ h => kV_open h) h
end Go.Proofs.Ytbhajjinlbadhaa
