/- A value of several cells stored whole. -/
import Derived.Test.YtfmfmammcjpboaaBox
namespace Go.Proofs.Ytfmfmammcjpboaa
open Go.RowKit
set_option linter.unusedVariables false
theorem box_at {W : World} {cs : Array Value} {T : TypeId} {g : Nat} (h : W.heap.size = g) : Box (W.alloc (.cells cs T)) g cs.toList := h ▸ Box.new W cs T
theorem puts3 {w : World} {g : Nat} {u0 u1 u2 : Value} (h : Box w g [u0, u1, u2]) (v0 v1 v2 : Value) : Box (((w.setCell ⟨g, 0, none⟩ v0).setCell ⟨g, 1, none⟩ v1).setCell ⟨g, 2, none⟩ v2) g [v0, v1, v2] := by
  have h0 := h
  have h1 := h0.set 0 v0 (by simp)
  have h2 := h1.set 1 v1 (by simp)
  have h3 := h2.set 2 v2 (by simp)
  simpa only [List.set_cons_zero, List.set_cons_succ] using h3
theorem puts3_other {w : World} {g b : Nat} {us : List Value} (h : Box w b us) (hne : g ≠ b) (v0 v1 v2 : Value) : Box (((w.setCell ⟨g, 0, none⟩ v0).setCell ⟨g, 1, none⟩ v1).setCell ⟨g, 2, none⟩ v2) b us := by
  have h0 := h
  have h1 := h0.other ⟨g, 0, none⟩ v0 hne
  have h2 := h1.other ⟨g, 1, none⟩ v1 hne
  have h3 := h2.other ⟨g, 2, none⟩ v2 hne
  exact h3
theorem puts3_below {w W : World} {g N : Nat} (h : Below N W w) (hN : N ≤ g) (v0 v1 v2 : Value) : Below N W (((w.setCell ⟨g, 0, none⟩ v0).setCell ⟨g, 1, none⟩ v1).setCell ⟨g, 2, none⟩ v2) := by
  have h0 := h
  have h1 := h0.setCell (p := ⟨g, 0, none⟩) hN v0
  have h2 := h1.setCell (p := ⟨g, 1, none⟩) hN v1
  have h3 := h2.setCell (p := ⟨g, 2, none⟩) hN v2
  exact h3
theorem puts5 {w : World} {g : Nat} {u0 u1 u2 u3 u4 : Value} (h : Box w g [u0, u1, u2, u3, u4]) (v0 v1 v2 v3 v4 : Value) : Box (((((w.setCell ⟨g, 0, none⟩ v0).setCell ⟨g, 1, none⟩ v1).setCell ⟨g, 2, none⟩ v2).setCell ⟨g, 3, none⟩ v3).setCell ⟨g, 4, none⟩ v4) g [v0, v1, v2, v3, v4] := by
  have h0 := h
  have h1 := h0.set 0 v0 (by simp)
  have h2 := h1.set 1 v1 (by simp)
  have h3 := h2.set 2 v2 (by simp)
  have h4 := h3.set 3 v3 (by simp)
  have h5 := h4.set 4 v4 (by simp)
  simpa only [List.set_cons_zero, List.set_cons_succ] using h5
theorem puts5_other {w : World} {g b : Nat} {us : List Value} (h : Box w b us) (hne : g ≠ b) (v0 v1 v2 v3 v4 : Value) : Box (((((w.setCell ⟨g, 0, none⟩ v0).setCell ⟨g, 1, none⟩ v1).setCell ⟨g, 2, none⟩ v2).setCell ⟨g, 3, none⟩ v3).setCell ⟨g, 4, none⟩ v4) b us := by
  have h0 := h
  have h1 := h0.other ⟨g, 0, none⟩ v0 hne
  have h2 := h1.other ⟨g, 1, none⟩ v1 hne
  have h3 := h2.other ⟨g, 2, none⟩ v2 hne
  have h4 := h3.other ⟨g, 3, none⟩ v3 hne
  have h5 := h4.other ⟨g, 4, none⟩ v4 hne
  exact h5
theorem puts5_below {w W : World} {g N : Nat} (h : Below N W w) (hN : N ≤ g) (v0 v1 v2 v3 v4 : Value) : Below N W (((((w.setCell ⟨g, 0, none⟩ v0).setCell ⟨g, 1, none⟩ v1).setCell ⟨g, 2, none⟩ v2).setCell ⟨g, 3, none⟩ v3).setCell ⟨g, 4, none⟩ v4) := by
  have h0 := h
  have h1 := h0.setCell (p := ⟨g, 0, none⟩) hN v0
  have h2 := h1.setCell (p := ⟨g, 1, none⟩) hN v1
  have h3 := h2.setCell (p := ⟨g, 2, none⟩) hN v2
  have h4 := h3.setCell (p := ⟨g, 3, none⟩) hN v3
  have h5 := h4.setCell (p := ⟨g, 4, none⟩) hN v4
  exact h5
theorem puts7 {w : World} {g : Nat} {u0 u1 u2 u3 u4 u5 u6 : Value} (h : Box w g [u0, u1, u2, u3, u4, u5, u6]) (v0 v1 v2 v3 v4 v5 v6 : Value) : Box (((((((w.setCell ⟨g, 0, none⟩ v0).setCell ⟨g, 1, none⟩ v1).setCell ⟨g, 2, none⟩ v2).setCell ⟨g, 3, none⟩ v3).setCell ⟨g, 4, none⟩ v4).setCell ⟨g, 5, none⟩ v5).setCell ⟨g, 6, none⟩ v6) g [v0, v1, v2, v3, v4, v5, v6] := by
  have h0 := h
  have h1 := h0.set 0 v0 (by simp)
  have h2 := h1.set 1 v1 (by simp)
  have h3 := h2.set 2 v2 (by simp)
  have h4 := h3.set 3 v3 (by simp)
  have h5 := h4.set 4 v4 (by simp)
  have h6 := h5.set 5 v5 (by simp)
  have h7 := h6.set 6 v6 (by simp)
  simpa only [List.set_cons_zero, List.set_cons_succ] using h7
theorem puts7_other {w : World} {g b : Nat} {us : List Value} (h : Box w b us) (hne : g ≠ b) (v0 v1 v2 v3 v4 v5 v6 : Value) : Box (((((((w.setCell ⟨g, 0, none⟩ v0).setCell ⟨g, 1, none⟩ v1).setCell ⟨g, 2, none⟩ v2).setCell ⟨g, 3, none⟩ v3).setCell ⟨g, 4, none⟩ v4).setCell ⟨g, 5, none⟩ v5).setCell ⟨g, 6, none⟩ v6) b us := by
  have h0 := h
  have h1 := h0.other ⟨g, 0, none⟩ v0 hne
  have h2 := h1.other ⟨g, 1, none⟩ v1 hne
  have h3 := h2.other ⟨g, 2, none⟩ v2 hne
  have h4 := h3.other ⟨g, 3, none⟩ v3 hne
  have h5 := h4.other ⟨g, 4, none⟩ v4 hne
  have h6 := h5.other ⟨g, 5, none⟩ v5 hne
  have h7 := h6.other ⟨g, 6, none⟩ v6 hne
  exact h7
theorem puts7_below {w W : World} {g N : Nat} (h : Below N W w) (hN : N ≤ g) (v0 v1 v2 v3 v4 v5 v6 : Value) : Below N W (((((((w.setCell ⟨g, 0, none⟩ v0).setCell ⟨g, 1, none⟩ v1).setCell ⟨g, 2, none⟩ v2).setCell ⟨g, 3, none⟩ v3).setCell ⟨g, 4, none⟩ v4).setCell ⟨g, 5, none⟩ v5).setCell ⟨g, 6, none⟩ v6) := by
  have h0 := h
  have h1 := h0.setCell (p := ⟨g, 0, none⟩) hN v0
  have h2 := h1.setCell (p := ⟨g, 1, none⟩) hN v1
  have h3 := h2.setCell (p := ⟨g, 2, none⟩) hN v2
  have h4 := h3.setCell (p := ⟨g, 3, none⟩) hN v3
  have h5 := h4.setCell (p := ⟨g, 4, none⟩) hN v4
  have h6 := h5.setCell (p := ⟨g, 5, none⟩) hN v5
  have h7 := h6.setCell (p := ⟨g, 6, none⟩) hN v6
  exact h7
theorem puts12 {w : World} {g : Nat} {u0 u1 u2 u3 u4 u5 u6 u7 u8 u9 u10 u11 : Value} (h : Box w g [u0, u1, u2, u3, u4, u5, u6, u7, u8, u9, u10, u11]) (v0 v1 v2 v3 v4 v5 v6 v7 v8 v9 v10 v11 : Value) : Box ((((((((((((w.setCell ⟨g, 0, none⟩ v0).setCell ⟨g, 1, none⟩ v1).setCell ⟨g, 2, none⟩ v2).setCell ⟨g, 3, none⟩ v3).setCell ⟨g, 4, none⟩ v4).setCell ⟨g, 5, none⟩ v5).setCell ⟨g, 6, none⟩ v6).setCell ⟨g, 7, none⟩ v7).setCell ⟨g, 8, none⟩ v8).setCell ⟨g, 9, none⟩ v9).setCell ⟨g, 10, none⟩ v10).setCell ⟨g, 11, none⟩ v11) g [v0, v1, v2, v3, v4, v5, v6, v7, v8, v9, v10, v11] := by
  have h0 := h
  have h1 := h0.set 0 v0 (by simp)
  have h2 := h1.set 1 v1 (by simp)
  have h3 := h2.set 2 v2 (by simp)
  have h4 := h3.set 3 v3 (by simp)
  have h5 := h4.set 4 v4 (by simp)
  have h6 := h5.set 5 v5 (by simp)
  have h7 := h6.set 6 v6 (by simp)
  have h8 := h7.set 7 v7 (by simp)
  have h9 := h8.set 8 v8 (by simp)
  have h10 := h9.set 9 v9 (by simp)
  have h11 := h10.set 10 v10 (by simp)
  have h12 := h11.set 11 v11 (by simp)
  simpa only [List.set_cons_zero, List.set_cons_succ] using h12
theorem puts12_other {w : World} {g b : Nat} {us : List Value} (h : Box w b us) (hne : g ≠ b) (v0 v1 v2 v3 v4 v5 v6 v7 v8 v9 v10 v11 : Value) : Box ((((((((((((w.setCell ⟨g, 0, none⟩ v0).setCell ⟨g, 1, none⟩ v1).setCell ⟨g, 2, none⟩ v2).setCell ⟨g, 3, none⟩ v3).setCell ⟨g, 4, none⟩ v4).setCell ⟨g, 5, none⟩ v5).setCell ⟨g, 6, none⟩ v6).setCell ⟨g, 7, none⟩ v7).setCell ⟨g, 8, none⟩ v8).setCell ⟨g, 9, none⟩ v9).setCell ⟨g, 10, none⟩ v10).setCell ⟨g, 11, none⟩ v11) b us := by
  have h0 := h
  have h1 := h0.other ⟨g, 0, none⟩ v0 hne
  have h2 := h1.other ⟨g, 1, none⟩ v1 hne
  have h3 := h2.other ⟨g, 2, none⟩ v2 hne
  have h4 := h3.other ⟨g, 3, none⟩ v3 hne
  have h5 := h4.other ⟨g, 4, none⟩ v4 hne
  have h6 := h5.other ⟨g, 5, none⟩ v5 hne
  have h7 := h6.other ⟨g, 6, none⟩ v6 hne
  have h8 := h7.other ⟨g, 7, none⟩ v7 hne
  have h9 := h8.other ⟨g, 8, none⟩ v8 hne
  have h10 := h9.other ⟨g, 9, none⟩ v9 hne
  have h11 := h10.other ⟨g, 10, none⟩ v10 hne
  have h12 := h11.other ⟨g, 11, none⟩ v11 hne
  exact h12
theorem puts12_below {w W : World} {g N : Nat} (h : Below N W w) (hN : N ≤ g) (v0 v1 v2 v3 v4 v5 v6 v7 v8 v9 v10 v11 : Value) : Below N W ((((((((((((w.setCell ⟨g, 0, none⟩ v0).setCell ⟨g, 1, none⟩ v1).setCell ⟨g, 2, none⟩ v2).setCell ⟨g, 3, none⟩ v3).setCell ⟨g, 4, none⟩ v4).setCell ⟨g, 5, none⟩ v5).setCell ⟨g, 6, none⟩ v6).setCell ⟨g, 7, none⟩ v7).setCell ⟨g, 8, none⟩ v8).setCell ⟨g, 9, none⟩ v9).setCell ⟨g, 10, none⟩ v10).setCell ⟨g, 11, none⟩ v11) := by
  have h0 := h
  have h1 := h0.setCell (p := ⟨g, 0, none⟩) hN v0
  have h2 := h1.setCell (p := ⟨g, 1, none⟩) hN v1
  have h3 := h2.setCell (p := ⟨g, 2, none⟩) hN v2
  have h4 := h3.setCell (p := ⟨g, 3, none⟩) hN v3
  have h5 := h4.setCell (p := ⟨g, 4, none⟩) hN v4
  have h6 := h5.setCell (p := ⟨g, 5, none⟩) hN v5
  have h7 := h6.setCell (p := ⟨g, 6, none⟩) hN v6
  have h8 := h7.setCell (p := ⟨g, 7, none⟩) hN v7
  have h9 := h8.setCell (p := ⟨g, 8, none⟩) hN v8
  have h10 := h9.setCell (p := ⟨g, 9, none⟩) hN v9
  have h11 := h10.setCell (p := ⟨g, 10, none⟩) hN v10
  have h12 := h11.setCell (p := ⟨g, 11, none⟩) hN v11
  exact h12
end Go.Proofs.Ytfmfmammcjpboaa
