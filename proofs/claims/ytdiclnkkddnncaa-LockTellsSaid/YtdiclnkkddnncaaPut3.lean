/- A variable of three cells is written anew. -/
import Derived.Test.YtdiclnkkddnncaaBox3
import Derived.Test.YtdiclnkkddnncaaSlB
namespace Go.Proofs.Ytdiclnkkddnncaa
open Go.RowKit
set_option linter.unusedVariables false
set_option linter.unusedSimpArgs false
abbrev put3 (w : World) (b : Nat) (x y z : Value) : World := ((w.setCell ⟨b, 0, none⟩ x).setCell ⟨b, 1, none⟩ y).setCell ⟨b, 2, none⟩ z
section
variable {w w0 : World} {b : Nat} {x y z : Value}
theorem put3_box {x' y' z' : Value} (h : Box3 w b x y z) : Box3 (put3 w b x' y' z') b x' y' z' := ((h.set0 x').set1 y').set2 z'
theorem put3_other {c : Nat} {x' y' z' : Value} (h : Box3 w c x y z) (hne : b ≠ c) : Box3 (put3 w b x' y' z') c x y z := ((h.other ⟨b, 0, none⟩ x' hne).other ⟨b, 1, none⟩ y' hne).other ⟨b, 2, none⟩ z' hne
theorem put3_below {N : Nat} (h : Below N w0 w) (hb : N ≤ b) (x y z : Value) : Below N w0 (put3 w b x y z) := Below.setCell (Below.setCell (Below.setCell h hb _) hb _) hb _
theorem put3_row {α : Type} {enc : α → List Value} {k N : Nat} {A : Option Addr} {l : List α} (h : RowE enc k w A l) (hA : ∀ a, A = some a → N ≤ a.block) (hb : b < N) (x y z : Value) : RowE enc k (put3 w b x y z) A l := ((h.set hA ⟨b, 0, none⟩ x hb).set hA ⟨b, 1, none⟩ y hb).set hA ⟨b, 2, none⟩ z hb
theorem put3_slb {α : Type} {enc : α → List Value} {k N : Nat} {v : Value} {l : List α} (h : SlB enc k N w v l) (hb : b < N) (x y z : Value) : SlB enc k N (put3 w b x y z) v l := ((h.set ⟨b, 0, none⟩ x hb).set ⟨b, 1, none⟩ y hb).set ⟨b, 2, none⟩ z hb
theorem put3_size (x y z : Value) : (put3 w b x y z).heap.size = w.heap.size := by simp
end
end Go.Proofs.Ytdiclnkkddnncaa
