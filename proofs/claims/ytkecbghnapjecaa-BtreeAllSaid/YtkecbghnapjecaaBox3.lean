/- A variable of three cells. -/
import Derived.Test.YtkecbghnapjecaaSlc2
namespace Go.Proofs.Ytkecbghnapjecaa
open Go.RowKit
set_option linter.unusedVariables false
set_option linter.unusedSimpArgs false
structure Box3 (w : World) (b : Nat) (x y z : Value) : Prop where
  c0 : w.cell? ⟨b, 0, none⟩ = some x
  c1 : w.cell? ⟨b, 1, none⟩ = some y
  c2 : w.cell? ⟨b, 2, none⟩ = some z
  f0 : w.frozen? ⟨b, 0, none⟩ = false
  f1 : w.frozen? ⟨b, 1, none⟩ = false
  f2 : w.frozen? ⟨b, 2, none⟩ = false
  lt : b < w.heap.size
section
variable {w w' : World} {b : Nat} {x y z : Value}
theorem Box3.heap {T : TypeId} (h : w.heap[b]? = some (.cells #[x, y, z] T)) : Box3 w b x y z := by
  have hlt := (Array.getElem?_eq_some_iff.1 h).1
  constructor <;> first | exact hlt | simp [World.cell?, World.frozen?, h]
theorem Box3.below (h : Box3 w b x y z) {N : Nat} (hb : Below N w w') (hN : b < N) : Box3 w' b x y z := by
  refine ⟨(hb.cell ?_).trans h.c0, (hb.cell ?_).trans h.c1, (hb.cell ?_).trans h.c2, (hb.frozen ?_).trans h.f0, (hb.frozen ?_).trans h.f1, (hb.frozen ?_).trans h.f2, ?_⟩
  · exact hN
  · exact hN
  · exact hN
  · exact hN
  · exact hN
  · exact hN
  · rcases Nat.lt_or_ge b w'.heap.size with k | k
    · exact k
    · have e := (hb.block b hN)
      have := h.lt
      rw [Array.getElem?_eq_none k, Array.getElem?_eq_getElem this] at e; cases e
theorem Box3.alloc (h : Box3 w b x y z) (o : Obj) : Box3 (w.alloc o) b x y z := h.below ((Below.refl w.heap.size w).alloc (Nat.le_refl _) o) h.lt
theorem Box3.drew (h : Box3 w b x y z) : Box3 w.drew b x y z := ⟨h.c0, h.c1, h.c2, h.f0, h.f1, h.f2, h.lt⟩
theorem Box3.new (w : World) (x y z : Value) (T : TypeId) : Box3 (w.alloc (.cells #[x, y, z] T)) w.heap.size x y z := Box3.heap (heap_alloc_new w _)
theorem Box3.other (h : Box3 w b x y z) (a : Addr) (u : Value) (ha : a.block ≠ b) : Box3 (w.setCell a u) b x y z := by
  have e := fun p hp => World.cell?_of_block (w := w) (w' := w.setCell a u) (a := ⟨b, p, none⟩) (heap_setCell_other w a b u hp)
  have f := fun p hp => World.frozen?_of_block (w := w) (w' := w.setCell a u) (a := ⟨b, p, none⟩) (heap_setCell_other w a b u hp)
  exact ⟨(e 0 (Ne.symm ha)).trans h.c0, (e 1 (Ne.symm ha)).trans h.c1, (e 2 (Ne.symm ha)).trans h.c2, (f 0 (Ne.symm ha)).trans h.f0, (f 1 (Ne.symm ha)).trans h.f1, (f 2 (Ne.symm ha)).trans h.f2, by simpa using h.lt⟩
theorem Box3.grown {row : Option Nat} (h : Box3 w b x y z) (hg : w.grownBy w' row) (hne : some b ≠ row) : Box3 w' b x y z := by
  have e := hg.block b h.lt hne
  have c := fun p => World.cell?_of_block (w := w) (w' := w') (a := ⟨b, p, none⟩) e
  have f := fun p => World.frozen?_of_block (w := w) (w' := w') (a := ⟨b, p, none⟩) e
  exact ⟨(c 0).trans h.c0, (c 1).trans h.c1, (c 2).trans h.c2, (f 0).trans h.f0, (f 1).trans h.f1, (f 2).trans h.f2, Nat.lt_of_lt_of_le h.lt hg.size⟩
theorem Box3.set0 (h : Box3 w b x y z) (u : Value) : Box3 (w.setCell ⟨b, 0, none⟩ u) b u y z := by
  obtain ⟨c0, c1, c2, f0, f1, f2, lt⟩ := h
  constructor <;> first | (simpa using lt) | (simp [c0, c1, c2, f0, f1, f2, lt, go_sem]; done) | go_simp
theorem Box3.set1 (h : Box3 w b x y z) (u : Value) : Box3 (w.setCell ⟨b, 1, none⟩ u) b x u z := by
  obtain ⟨c0, c1, c2, f0, f1, f2, lt⟩ := h
  constructor <;> first | (simpa using lt) | (simp [c0, c1, c2, f0, f1, f2, lt, go_sem]; done) | go_simp
theorem Box3.set2 (h : Box3 w b x y z) (u : Value) : Box3 (w.setCell ⟨b, 2, none⟩ u) b x y u := by
  obtain ⟨c0, c1, c2, f0, f1, f2, lt⟩ := h
  constructor <;> first | (simpa using lt) | (simp [c0, c1, c2, f0, f1, f2, lt, go_sem]; done) | go_simp
end
end Go.Proofs.Ytkecbghnapjecaa
