/- The page's state as an argument. -/
import Derived.Test.YtdajginkipaghaaProg
import Derived.Test.YtdajginkipaghaaKinds
import Derived.Test.YtdajginkipaghaaSsi2
import Derived.Test.YtdajginkipaghaaLines
namespace Go.Proofs.Ytdajginkipaghaa
open Go.RowKit
def kTx : Kd Tx := (Kd.pair (Kd.int .i64) (Kd.pair (Kd.int .i64) (Kd.pair (Kd.int .i64) (Kd.pair Kd.bool Kd.bool)))).iso (fun v => (v.id, v.st, v.en, v.inn, v.out))
theorem kTx_open {w : World} {y : Tx} {cs : List Value} (h : kTx.K w y cs) : cs = encT y := by
  obtain ⟨_, _, rfl, rfl, _, _, rfl, rfl, _, _, rfl, rfl, _, _, rfl, rfl, rfl⟩ := h
  rfl
theorem opens_kTx : Opens Try.prog 50 kTx (fun _ => True) :=
  opens_iso (opens_struct Try.underlying50 (by kernel_rfl)
    (opensF_cons rfl (by kernel_rfl) (opens_int Try.underlying3) (opensF_cons rfl (by kernel_rfl) (opens_int Try.underlying3) (opensF_cons rfl (by kernel_rfl) (opens_int Try.underlying3) (opensF_cons rfl (by kernel_rfl) (opens_bool Try.underlying4) (opensF_one rfl (by kernel_rfl) (opens_bool Try.underlying4)))))))
    _ (fun y => ⟨y.1, y.2.1, y.2.2.1, y.2.2.2.1, y.2.2.2.2⟩) (fun _ => rfl) _ (fun _ _ => trivial)
theorem opens_kTxs : Opens Try.prog 44 kTx.slice (fun l => l.length * 32 ≤ 140737488351232 ∧ ∀ x ∈ l, True) :=
  opens_slice Try.underlying44 (by kernel_rfl) (by kernel_rfl) opens_kTx
def kSt : Kd St := (Kd.pair kTx.slice (Kd.pair (Kd.int .i64) (Kd.int .i64))).iso (fun s => (s.l, s.clk, s.nxt))
theorem rowT {w : World} {A : Option Addr} {l : List Tx} (h : kTx.Row w A l) : RowE encT 5 w A l := RowE.of (d := kTx) (enc := encT) (by decide) (fun _ _ _ h => kTx_open h) h
theorem kSt_open {w : World} {y : St} {cs : List Value} (h : kSt.K w y cs) : ∃ A c, cs = [.slice A y.l.length c, .int .i64 y.clk, .int .i64 y.nxt] ∧ y.l.length ≤ c ∧ RowE encT 5 w A y.l := by
  obtain ⟨_, _, rfl, ⟨A, c, rfl, h1, h2⟩, _, _, rfl, rfl, rfl⟩ := h
  exact ⟨A, c, rfl, h1, rowT h2⟩
theorem opens_kSt : Opens Try.prog 46 kSt (fun s => s.l.length * 32 ≤ 140737488351232) :=
  opens_iso (opens_struct Try.underlying46 (by kernel_rfl)
    (opensF_cons rfl (by kernel_rfl) opens_kTxs (opensF_cons rfl (by kernel_rfl) (opens_int Try.underlying3) (opensF_one rfl (by kernel_rfl) (opens_int Try.underlying3)))))
    _ (fun y => ⟨y.1, y.2.1, y.2.2⟩) (fun _ => rfl) _ (fun y h => h.1.1)
end Go.Proofs.Ytdajginkipaghaa
