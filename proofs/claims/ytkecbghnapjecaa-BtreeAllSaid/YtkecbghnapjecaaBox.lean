/- A variable of any number of cells. -/
import Derived.Test.YtkecbghnapjecaaKept
import Derived.Test.YtkecbghnapjecaaSlB
namespace Go.Proofs.Ytkecbghnapjecaa
open Go.RowKit
set_option linter.unusedVariables false
set_option linter.unusedSimpArgs false
structure Box (w : World) (b : Nat) (vs : List Value) : Prop where
  c : ∀ (i : Nat) (v : Value), vs[i]? = some v → w.cell? ⟨b, i, none⟩ = some v
  f : ∀ i, i < vs.length → w.frozen? ⟨b, i, none⟩ = false
  lt : b < w.heap.size
section
variable {w w' : World} {b : Nat} {vs : List Value}
theorem Box.of_block {b : Nat} (h : Box w b vs) (e : w'.heap[b]? = w.heap[b]?) (hs : b < w'.heap.size) : Box w' b vs :=
  ⟨fun i v hv => (World.cell?_of_block (a := ⟨b, i, none⟩) e).trans (h.c i v hv), fun i hi => (World.frozen?_of_block (a := ⟨b, i, none⟩) e).trans (h.f i hi), hs⟩
theorem Box.below (h : Box w b vs) {N : Nat} (hb : Below N w w') (hN : b < N) : Box w' b vs := by
  have e := hb.block b hN
  refine h.of_block e ?_
  rcases Nat.lt_or_ge b w'.heap.size with k | k
  · exact k
  · rw [Array.getElem?_eq_none k, Array.getElem?_eq_getElem h.lt] at e; cases e
theorem Box.step (h : Box w b vs) (hb : Below w.heap.size w w') : Box w' b vs := h.below hb h.lt
theorem Box.alloc (h : Box w b vs) (o : Obj) : Box (w.alloc o) b vs := h.step ((Below.refl _ w).alloc (Nat.le_refl _) o)
theorem Box.drew (h : Box w b vs) : Box w.drew b vs := ⟨h.c, h.f, h.lt⟩
theorem Box.drewN (h : Box w b vs) (n : Nat) : Box (w.drewN n) b vs := ⟨h.c, h.f, h.lt⟩
theorem Box.heap {cs : Array Value} {T : TypeId} (h : w.heap[b]? = some (.cells cs T)) : Box w b cs.toList := by
  have hlt := (Array.getElem?_eq_some_iff.1 h).1
  refine ⟨fun i v hv => ?_, fun i hi => ?_, hlt⟩
  · simp only [World.cell?, h]; simpa using hv
  · simp [World.frozen?, h]
theorem Box.new (w : World) (cs : Array Value) (T : TypeId) : Box (w.alloc (.cells cs T)) w.heap.size cs.toList := Box.heap (heap_alloc_new w _)
theorem Box.kept {N : Nat} {B : Nat → Prop} (h : Box w b vs) (hk : Kept N B w w') (hN : b < N) (hB : ¬ B b) : Box w' b vs := h.of_block (hk.block b hN hB) (Nat.lt_of_lt_of_le h.lt hk.size)
theorem Box.grown {row : Option Nat} (h : Box w b vs) (hg : w.grownBy w' row) (hne : some b ≠ row) : Box w' b vs := h.of_block (hg.block b h.lt hne) (Nat.lt_of_lt_of_le h.lt hg.size)
theorem Box.other (h : Box w b vs) (a : Addr) (u : Value) (ha : a.block ≠ b) : Box (w.setCell a u) b vs := h.of_block (heap_setCell_other w a b u (Ne.symm ha)) (by simpa using h.lt)
theorem Box.set (h : Box w b vs) (j : Nat) (u : Value) (hj : j < vs.length) : Box (w.setCell ⟨b, j, none⟩ u) b (vs.set j u) := by
  refine ⟨fun i v hv => ?_, fun i hi => ?_, by simpa using h.lt⟩
  · by_cases e : i = j
    · subst e
      rw [List.getElem?_set_self hj] at hv
      obtain rfl := Option.some.inj hv
      have h1 := h.c i _ (List.getElem?_eq_getElem hj)
      go_simp
    · rw [List.getElem?_set_ne (Ne.symm e)] at hv
      have h1 := h.c i v hv
      have h2 := h.c j _ (List.getElem?_eq_getElem hj)
      have h3 : ¬ j = i := fun h => e h.symm
      first | (go_simp; done) | (simp [h1, h2, e, h3, go_sem]; done) | (simp [h1, h2, e, h3, h.lt, go_sem]; done)
  · rw [List.length_set] at hi
    have h1 := h.f i hi
    simpa using h1
theorem Box.mono {vs' : List Value} (h : Box w b vs) (e : vs = vs') : Box w b vs' := e ▸ h
/-- A cell of a block just laid. -/
theorem cell_new {W : World} {cs : Array Value} {T : TypeId} {g j : Nat} {u : Value} (hg : W.heap.size = g) (hj : cs.toList[j]? = some u) : (W.alloc (.cells cs T)).cell? ((⟨g, 0, none⟩ : Addr).add j) = some u := by
  subst hg
  have h := (Box.new W cs T).c j u hj
  rw [Addr.add_lit, Nat.zero_add]; exact h
end
end Go.Proofs.Ytkecbghnapjecaa
