/- The page's table as an argument, with what nil tells. -/
import Derived.Test.YtfmfmammcjpboaaKindN
import Derived.Test.YtfmfmammcjpboaaKindV
import Derived.Test.YtfmfmammcjpboaaMayW
namespace Go.Proofs.Ytfmfmammcjpboaa
open Go.RowKit
set_option linter.unusedVariables false
set_option linter.unusedSimpArgs false
def kCol : Kd Col := (Kd.pair Kd.str (Kd.pair (Kd.int .i64) Kd.bool)).iso (fun c => (c.name, c.kind, c.nn))
theorem kCol_open {w : World} {y : Col} {cs : List Value} (h : kCol.K w y cs) : cs = encC y := by
  obtain ⟨_, _, rfl, rfl, _, _, rfl, rfl, rfl⟩ := h
  rfl
theorem opens_kCol : Opens Try.prog 65 kCol (fun c => c.name.size ≤ 140737488351232) :=
  opens_iso (opens_struct Try.underlying65 (by kernel_rfl)
    (opensF_cons rfl (by kernel_rfl) (opens_str Try.underlying9) (opensF_cons rfl (by kernel_rfl) (opens_int Try.underlying3) (opensF_one rfl (by kernel_rfl) (opens_bool Try.underlying4)))))
    _ (fun y => ⟨y.1, y.2.1, y.2.2⟩) (fun _ => rfl) _ (fun _ h => h.1)
def kIx : Kd Ixd := (Kd.pair Kd.str (Kd.int .i64)).iso (fun x => (x.name, x.col))
theorem kIx_open {w : World} {y : Ixd} {cs : List Value} (h : kIx.K w y cs) : cs = encX y := by
  obtain ⟨_, _, rfl, rfl, rfl⟩ := h
  rfl
theorem opens_kIx : Opens Try.prog 62 kIx (fun x => x.name.size ≤ 140737488351232 ∧ InR x.col) :=
  opens_iso (opens_struct Try.underlying62 (by kernel_rfl)
    (opensF_cons rfl (by kernel_rfl) (opens_str Try.underlying9) (opensF_one rfl (by kernel_rfl) (opens_int Try.underlying3))))
    _ (fun y => ⟨y.1, y.2⟩) (fun _ => rfl) _ (fun _ h => ⟨h.1, inR_wf h.2⟩)
theorem rowC {w : World} {A : Option Addr} {l : List Col} (h : kCol.Row w A l) : RowE encC 3 w A l := RowE.of (d := kCol) (enc := encC) (by decide) (fun _ _ _ h => kCol_open h) h
theorem rowX {w : World} {A : Option Addr} {l : List Ixd} (h : kIx.Row w A l) : RowE encX 2 w A l := RowE.of (d := kIx) (enc := encX) (by decide) (fun _ _ _ h => kIx_open h) h
structure Tb where
  name : ByteArray
  cols : List Col
  key : Int
  ixs : List Ixd
def kTb : Kd Tb := (Kd.pair Kd.str (Kd.pair (Kd.nslice kCol) (Kd.pair (Kd.int .i64) (Kd.nslice kIx)))).iso (fun t => (t.name, t.cols, t.key, t.ixs))
theorem kTb_open {w : World} {y : Tb} {cs : List Value} (h : kTb.K w y cs) : ∃ A ca B cb, cs = [.string y.name, .slice A y.cols.length ca, .int .i64 y.key, .slice B y.ixs.length cb] ∧ RowE encC 3 w A y.cols ∧ RowE encX 2 w B y.ixs ∧ (A = none → ca = 0) := by
  obtain ⟨_, _, rfl, rfl, _, _, rfl, ⟨A, ca, rfl, h1, h2, h3⟩, _, _, rfl, rfl, B, cb, rfl, h4, h5, h6⟩ := h
  exact ⟨A, ca, B, cb, rfl, rowC h2, rowX h5, h3⟩
theorem opens_kTb : Opens Try.prog 25 kTb (fun t => (t.cols.length * 32 ≤ 140737488351232 ∧ ∀ c ∈ t.cols, c.name.size ≤ maxLen) ∧ (t.ixs.length * 24 ≤ 140737488351232 ∧ ∀ x ∈ t.ixs, x.name.size ≤ maxLen ∧ -9223372036854775808 ≤ x.col ∧ x.col ≤ 9223372036854775807) ∧ (-9223372036854775808 ≤ t.key ∧ t.key ≤ 9223372036854775807)) :=
  opens_iso (opens_struct Try.underlying25 (by kernel_rfl)
    (opensF_cons rfl (by kernel_rfl) (opens_str Try.underlying9) (opensF_cons rfl (by kernel_rfl) (opens_nslice Try.underlying22 (by kernel_rfl) (by kernel_rfl) opens_kCol)
      (opensF_cons rfl (by kernel_rfl) (opens_int Try.underlying3) (opensF_one rfl (by kernel_rfl) (opens_nslice Try.underlying23 (by kernel_rfl) (by kernel_rfl) opens_kIx))))))
    _ (fun y => ⟨y.1, y.2.1, y.2.2.1, y.2.2.2⟩) (fun _ => rfl) _ (fun _ h => ⟨⟨h.2.1.1, fun c hc => Nat.le_trans (h.2.1.2 c hc) (by decide)⟩, ⟨h.2.2.2.1, fun x hx => ⟨Nat.le_trans (h.2.2.2.2 x hx).1 (by decide), (h.2.2.2.2 x hx).2⟩⟩, inR_wf h.2.2.1⟩)
end Go.Proofs.Ytfmfmammcjpboaa
