/- Package lock: Read. -/
import Derived.Test.YtdiclnkkddnncaaAddW
namespace Go.Proofs.Ytdiclnkkddnncaa
open Go.RowKit
open Go.Shelf
set_option linter.unusedVariables false
set_option linter.unusedSimpArgs false
/-- The lock of one key. -/
def keyL (t : Int) (k : ByteArray) : Lk := ⟨t, k, k ++ (⟨#[0]⟩ : ByteArray)⟩
set_option maxHeartbeats 4000000 in
set_option maxRecDepth 100000 in
theorem read_any (A : Option Addr) (c : Nat) (l : List Lk) (t : Int) (k : ByteArray) (w : World) (HR : RowE encL 3 w A l) (hn : A = none → c = 0) (hl : l.length ≤ 140737488355328) (hk : k.size ≤ 140737488351232) :
    Calls Try.prog 15 #[.agg #[.slice A l.length c], .int .i64 t, .string k] w fun e w' => ∃ v, e = .returned (.tuple #[.agg #[v], .int .i64 (addL l (keyL t k)).2]) ∧ SlB encL 3 w.heap.size w' v (addL l (keyL t k)).1 ∧ Below w.heap.size w w' := by
  have ba : Below w.heap.size w ((w.alloc (.cells #[.slice A l.length c] 30)).alloc (.cells #[.slice none 0 0] 30)) := (by (repeat (first | (with_reducible exact Below.refl _ _) | apply below_alloc _ (Nat.le_refl _) | refine below_set ?_ (by first | exact Nat.le_refl _ | omega) | apply below_drewN | refine below_step ?_ HB)))
  have B2 := (Box1.new w (.slice A l.length c) 30).alloc (.cells #[.slice none 0 0] 30)
  have B3 := Box1.new (w.alloc (.cells #[.slice A l.length c] 30)) (.slice none 0 0) 30
  have had := fun (W : World) (h : RowE encL 3 W A l) => add_any A c l (keyL t k) W h hn hl
  generalize (addL l (keyL t k)).2 = e0 at *
  generalize (addL l (keyL t k)).1 = r0 at *
  dsimp only [keyL] at had
  have hsz : ¬ (9223372036854775807 < k.size + 1) := by omega
  have hcall := had _ (HR.below ba)
  clear had HR
  go_enter Try.func15, Try.ntmps15
  go_wp2_with fail
  refine hcall.mono ?_; rintro e w1 ⟨v, rfl, hv, h1⟩
  have HB3 := B3.step h1
  have hF := ba.trans (h1.mono (by simp; omega))
  have HV := Lib.hid (hv.mono (M := w.heap.size) (by simp; omega))
  obtain ⟨A1, c1, rfl, _⟩ := (show ∃ A c, v = .slice A r0.length c ∧ True by obtain ⟨A, c, hh, _⟩ := hv; exact ⟨A, c, hh, trivial⟩)
  have hN : ∀ a, A1 = some a → w.heap.size + 2 ≤ a.block := fun a ha => by
    obtain ⟨A', c', hh, _, _, _, h5⟩ := hv
    cases hh
    have := h5 a ha
    simpa using this
  have HV2 := Lib.hid (show SlB encL 3 (w.heap.size + 2) w1 (.slice A1 r0.length c1) r0 from by simpa using hv)
  clear hv h1 hcall B2
  obtain ⟨c0, f0, l0⟩ := HB3
  simp only [World.size_alloc] at c0 f0 l0
  go_wp2
  refine bodyPost_ret (v := .tuple #[.agg #[.slice A1 r0.length c1], .int .i64 e0]) (by simp [results, Try.results15, go_sem, c0, l0]) rfl ?_
  refine ⟨_, rfl, ((HV2.out.set ⟨w.heap.size + 1, 0, none⟩ _ (by show w.heap.size + 1 < w.heap.size + 2; omega)).mono (M := w.heap.size) (by omega)), Below.setCell hF (by simp) _⟩
end Go.Proofs.Ytdiclnkkddnncaa
