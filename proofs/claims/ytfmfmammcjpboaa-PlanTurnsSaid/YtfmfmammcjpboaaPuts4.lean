/- A value of four cells stored whole. -/
import Derived.Test.YtfmfmammcjpboaaPuts
namespace Go.Proofs.Ytfmfmammcjpboaa
open Go.RowKit
set_option linter.unusedVariables false
theorem puts4 {w : World} {g : Nat} {u0 u1 u2 u3 : Value} (h : Box w g [u0, u1, u2, u3]) (v0 v1 v2 v3 : Value) : Box ((((w.setCell ⟨g, 0, none⟩ v0).setCell ⟨g, 1, none⟩ v1).setCell ⟨g, 2, none⟩ v2).setCell ⟨g, 3, none⟩ v3) g [v0, v1, v2, v3] := by
  have h0 := h
  have h1 := h0.set 0 v0 (by simp)
  have h2 := h1.set 1 v1 (by simp)
  have h3 := h2.set 2 v2 (by simp)
  have h4 := h3.set 3 v3 (by simp)
  simpa only [List.set_cons_zero, List.set_cons_succ] using h4
theorem puts4_other {w : World} {g b : Nat} {us : List Value} (h : Box w b us) (hne : g ≠ b) (v0 v1 v2 v3 : Value) : Box ((((w.setCell ⟨g, 0, none⟩ v0).setCell ⟨g, 1, none⟩ v1).setCell ⟨g, 2, none⟩ v2).setCell ⟨g, 3, none⟩ v3) b us := by
  have h0 := h
  have h1 := h0.other ⟨g, 0, none⟩ v0 hne
  have h2 := h1.other ⟨g, 1, none⟩ v1 hne
  have h3 := h2.other ⟨g, 2, none⟩ v2 hne
  have h4 := h3.other ⟨g, 3, none⟩ v3 hne
  exact h4
theorem puts4_below {w W : World} {g N : Nat} (h : Below N W w) (hN : N ≤ g) (v0 v1 v2 v3 : Value) : Below N W ((((w.setCell ⟨g, 0, none⟩ v0).setCell ⟨g, 1, none⟩ v1).setCell ⟨g, 2, none⟩ v2).setCell ⟨g, 3, none⟩ v3) := by
  have h0 := h
  have h1 := h0.setCell (p := ⟨g, 0, none⟩) hN v0
  have h2 := h1.setCell (p := ⟨g, 1, none⟩) hN v1
  have h3 := h2.setCell (p := ⟨g, 2, none⟩) hN v2
  have h4 := h3.setCell (p := ⟨g, 3, none⟩) hN v3
  exact h4
end Go.Proofs.Ytfmfmammcjpboaa
